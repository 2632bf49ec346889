/- J20 -/
import Derived.Test.YtdbgldieilgnmaaGreatDoorJ19
import Derived.Great.BuildSlice
set_option linter.unusedVariables false
set_option linter.unusedSimpArgs false
set_option maxHeartbeats 8000000
set_option maxRecDepth 100000
namespace Go.Proofs.YtdbgldieilgnmaaGreatDoor
open Go.Proofs.Tryz
open Go.Proofs.Tryz renaming prog → qp0
open Go.ChangeShapes Go.WideShapes Go.ChangeAt Go.RowKit
open Go renaming undef → au
section
open Go.Conc
open Cc (tp Ai BW EA c0)
namespace Sr
section
variable {P:Program}{L:FuncId->Bool}{K:Op->Bool}{S:Nat->Prop}{Φ:Frame->List Frame->World->Prop}{Ψ:Goroutine->World->Prop}{w:World}
theorem Ye{fr:Frame}{cs base:List Frame}(ht:GT P L K S Φ fr cs w){T:xH}(hT:OkT T)(hi:UQ P L K T fr cs)(h:∀ fr' cs' w',UQ P L K T fr' cs'->(∀ τ d,Φ fr' cs' (tp w' τ d))->BW P (G (uz T fr' cs') (yR T cs'++base)) w' Ψ):BW P (G (uz T fr cs) (yR T cs++base)) w Ψ:=by
 induction ht with
 | stop hq=>exact h _ _ _ hi hq
 | @step fr cs w hn hf fr' cs' w' hst ht ih =>
  refine QV rfl fun d=>?_
  have h1:=hst w.tape d;have h2:=h1.eqT T base true w.tape d hT hi (fun i _=>rfl);obtain⟨hi',es,he,hev⟩:=h2;have e:tp (w' w.tape d) w.tape (d+((w' w.tape d).drawn-(tp w w.tape d).drawn))=w' w.tape d:=by
   have hd':d<=(w' w.tape d).drawn:=h1.drawn;have ht':(w' w.tape d).tape=w.tape:=h1.tape;generalize w' w.tape d=W at hd' ht';show({W with tape:=w.tape,drawn:=d+(W.drawn-d)}:World)=_;rw[show d+(W.drawn-d)=W.drawn by omega,<-ht']
  rw[e] at he;exact⟨_,_,es,he,h1.size,fun e he=>XY (hev e he),ih w.tape d hi'⟩
theorem YJ(hK:vB P L K)(hL:∀ f,L f=true->fK P f)(hT:Tk P L K){D:Nat->Prop}{b:Frame}{a:Act}{l:List Code}{r:Code ⊕ Nat}{k:List Item}{Q:Exit->Act->World->Prop}(hrl:okE r l)(hb:b.kind=.normal)(ha:a.defers=[])(hc:kg P L K [] (dR l (.refuse ""))=true){B:List Frame}(hs:bU P L S D a.tmps w)(hC:∀ τ d,gB P Q l a (tp w τ d))(hE:∀ e a w,Q e a w->uE P e)(hQ:∀ e a w τ d,Q e a w->Q e a (tp w τ d))(hn:∀ e a' fr w' D',Q e a' w'->bU P L S D' a'.tmps w'->(∀ a,D a->D' a)->oN b r k e a' fr->BW P (G fr B) w' Ψ):BW P (G (b.at a (fQ r l::k)) B) w Ψ:=by
 have hit:Items P L K [] [.code (dR l (.refuse ""))]:=by intro x hx;simp at hx;subst hx;exact hc
 have htr:=BP hK hL hT (hs.self hb ha hit) hC hE hQ;have hT':OkT ((([],some (r,k)),id,[]):xH):=.inl rfl;have key:=Ye (T:=(([],some (r,k)),id,[])) (base:=B) (Ψ:=Ψ) htr hT' (by
  refine⟨?_,[],l,hrl,rfl⟩;intro x hx;have:x=.code (dR l (.refuse "")):=by simpa[Frame.at] using hx
  subst this;exact hc) fun fr cs w' hi hst=>?_
 .have e:uz ((([],some (r,k)),id,[]):xH) (b.at a [.code (dR l (.refuse ""))]) []=b.at a (fQ r l::k):=by
   show iR _ _=_;have:=lQ (r,k) [] l;simp only[yG] at this;obtain⟨tm,df⟩:=a;have ha:df=[]:=ha;subst ha;unfold iR Frame.at
   simp only[this,yG];rfl
  rw[e] at key;exact key
 .obtain⟨⟨rfl,e,a',hq,hat⟩,D',hs',hsup⟩:=hst w'.tape w'.drawn;have hq:Q e a' w':=hq;obtain⟨hst',hd⟩:=sZ hs';have sQ:bU P L S D' fr.tmps w':=hst';obtain⟨tm,df⟩:=a';show BW P (G (iR _ fr) B) w' Ψ
  cases e with
  | normal =>
   cases hat
   have hd:df=[]:=hd;subst hd;refine hn .normal _ _ w' D' hq sQ hsup ?_;have:o8 (some (r,k)) [fQ (.inl (.refuse "")) []]=fQ r []::k:=lQ (r,k) [] [];unfold oN iR Frame.at
   simp only[this,yG];rfl
  | ret =>
   obtain⟨todo,rfl⟩:=hat;have hd:df=[]:=hd;subst hd;refine hn .ret _ _ w' D' hq sQ hsup ⟨o8 (some (r,k)) todo,?_⟩;unfold iR Frame.at
   simp only[yG];rfl
  | panic ch =>
   obtain⟨todo,rfl⟩:=hat;have hd:df=[]:=hd;subst hd;refine hn (.panic ch) _ _ w' D' hq sQ hsup ⟨o8 (some (r,k)) todo,?_⟩;unfold iR Frame.at
   simp only[yG];rfl
  | _=>exact hat.elim
end
end Sr
end
section
open Go.Conc
namespace Sr
section
variable {R:Nat->Nat->Prop}{L L':FuncId->Bool}
theorem VR.up(hL:∀ f,L f=true->L' f=true){v w:Value}(h:VR R L v w):VR R L' v w:=by
 induction h with
 | bool b=>exact .bool b
 | int k n=>exact .int k n
 | string s=>exact .string s
 | gV=>exact .gV
 | ptr a b h=>exact .ptr a b h
 | iq n c=>exact .iq n c
 | slice a b n c h=>exact .slice a b n c h
 | fV=>exact .fV
 | map r s h=>exact .map r s h
 | chan r=>exact .chan r
 | func f hf x c y d hx hxv hc hcv ih1 ih2=>exact .func f (hL _ hf) x c y d hx ih1 hc ih2
 | nilFunc=>exact .nilFunc
 | iface t v w h ih=>exact .iface t v w ih
 | tJ t a ht ha=>exact .tJ t a (hL _ ht) (hL _ ha)
 | nilIface=>exact .nilIface
 | agg x y hx hv ih=>exact .agg x y hx ih
 | tuple x y hx hv ih=>exact .tuple x y hx ih
theorem AV.up(hL:∀ f,L f=true->L' f=true){x y:Array Value}(h:AV R L x y):AV R L' x y:=⟨h.1,fun i v w hv hw=>(h.2 i v w hv hw).up hL⟩
theorem OR.up(hL:∀ f,L f=true->L' f=true){x y:Obj}(h:OR R L x y):OR R L' x y:=by
 cases h with
 | cells x y e f h=>exact .cells x y e f (h.up hL)
 | map x y c h=>exact .map x y c ⟨h.1,fun i v w hv hw=>⟨(h.2 i v w hv hw).key.up hL,(h.2 i v w hv hw).val.up hL,(h.2 i v w hv hw).born⟩⟩
 | sit s p=>exact .sit s p
 | fV a s t=>exact .fV a s t
 | number a b l h=>exact .number a b l h
 | M7 m m' h a s t=>exact .M7 m m' h a s t
theorem OO.up(hL:∀ f,L f=true->L' f=true){x y:Option Obj}(h:OO R L x y):OO R L' x y:=by
 cases h with
 | none=>exact .none
 | some h=>exact .some (h.up hL)
end
theorem JC(e:Nat×Nat)(b:Nat)(h:iM e (2*b+1000000001)=true):dW e (2*b+1000000001)=true:=by
 unfold iM at h;simp only[Yb,beq_iff_eq] at h;unfold dW;simp only[Yb,beq_iff_eq];rcases h with(h|h)|h
 .refine .inl (.inl ?_);have h:(2*b+1000000001)∈LO:=by simpa using h
  rcases UY.1 h with h|h
  .exfalso;simp only[LU,rD,xS,or_false] at h;rcases h with h|h|h|h <;> (have h:2*b+1000000001=_:=h;omega)
  .simpa using h
 .exact .inl (.inr h)
 .exact .inr h
theorem HR.lift{R:Nat->Nat->Prop}{e:Nat×Nat}{h h':Array Obj}(k:HR R (dW e) h h'):HR R (iM e) h h' :=⟨fun b b' hb=>(k.rel b b' hb).up (Rc e),fun b hb=>k.opq b (JC e b hb),fun a b hab=>by
  have:=k.Af a b hab;constructor
  .cases hx:iM e (2*a+1000000001) with
   | false=>rfl
   | true=>rw[JC e a hx] at this;cases this.1
  .cases hx:iM e (2*b+1000000001) with
   | false=>rfl
   | true=>rw[JC e b hx] at this;cases this.2⟩
theorem HR.oq{R:Nat->Nat->Prop}{L:FuncId->Bool}{h h':Array Obj}(k:HR R L h h')(b:Nat)(hb:L (2*b+1000000001)=true):b<h'.size:=by
 obtain⟨c,e,_,h2⟩:=k.opq b hb;exact(fT.1 h2).1
theorem aay{P:Program}{R:Nat->Nat->Prop}{L:FuncId->Bool}{K:Op->Bool}{d:Deferred}{n:Nat}(hd:DR R L d d):SL P R L K false O0 [] [] {(default:Frame) with fn:=n,defers:=[d],mode:=.panicking [goexitEntry]} [] {(default:Frame) with fn:=n,defers:=[d],mode:=.panicking [goexitEntry]} []:=by
 refine .bot ⟨rfl,⟨#[],.nil,rfl⟩,rfl,?_,⟨[d],rfl,.cons hd .nil⟩,?_,rfl,.inl rfl,.inl rfl,rfl,rfl⟩ rfl (fun z=>by cases z) fun _=>rfl
 .intro x hx;cases hx
 .exact .panicking (.cons dG rfl rfl .nil)
end Sr
end
section
open Go.Conc
open Cc (tp)
namespace Plain
theorem abu{α:Type}(o n m:Nat)(e:α)(l:List α)(h:o+512<=n)(k:n+512*l.length<=m):o+512*(e::l).length<=m:=by rw[oH];omega
theorem abd(d:List UInt8)(lim:kG):∀ o s,o<=d.length->o+512*(sgo d lim o s).ents.length<=d.length :=Jp (C:=fun o s r=>o+512*r.ents.length<=d.length) (fun o s c off ho _=>by simpa using ho) (fun o s s' n _ _ h _ k=>by omega) (fun o s e s' n _ _ h _ k=>by
  exact abu _ _ _ _ _ h k)
end Plain
namespace Cc
section
variable {P:Program}{L:List FuncId}{w:World}{Φ:Goroutine->World->Prop}{b:Frame}{a:Act}{k:List Item}{cs:List Frame}
theorem BW.enter{ops:Array Oper}{i:Nat}{rest:List Nat}{o:Oper}{f:FuncId}{fn:Func}{c:Code}{args:Array Operand}{ats:Array TypeId}(ho:ops[i]? = some o)(hw:Region.wanted o (yielded ops a.tmps)=true)(hk:b.kind≠.early)(hop:o.op=.call {callee:=.value (.func f),args,argTypes:=ats})(hf:P.funcs[f]? = some fn)(hname:(fn.name == "runtime.NumGoroutine")=false)(hb:fn.body=some c){vs:Array Value}(ha:args.map a.eval=vs){t:Array Value}(ht:vs++Array.replicate (fn.ntmps-vs.size) au=t)(hn:∀ p:Frame,(∀ v,p.finish v=b.at (a.put o.dst v) (.inRegion ops rest::k))->BW P (G ((base f).at ⟨t,[]⟩ [.code c]) (p::cs)) w Φ):BW P (G (b.at a (.inRegion ops (i::rest)::k)) cs) w Φ:=by
 subst ha;subst ht;refine BW.ctl rfl (fun w=>?_) (hn (b.at a (.inRegion ops (i::rest)::k)) fun v=>by rw[Frame.finish_at,ho];rfl);have henter:Frame.enter P f (args.map a.eval) .normal=(base f).at {tmps:=args.map a.eval++Array.replicate (fn.ntmps-(args.map a.eval).size) au,defers:=[]} [.code c]:=by
  simp[Frame.enter,Frame.at,hf,hb,base]
 have:=goes_call (main:=true) (w:=w) (K:=fun g' w' es=>g'=G (Frame.enter P f (args.map a.eval) .normal) (b.at a (.inRegion ops (i::rest)::k)::cs)/\w'=w/\es=#[]) (cs:=cs) (k:=k) (rest:=rest) ho hw hk hop hf hname hb ⟨by rw[henter],rfl,rfl⟩;obtain⟨g',w',es,h1,rfl,rfl,rfl⟩:=goes_elim this;rw[<-henter];exact h1
theorem BW.Jj{id:Nat}{l:List Oper}{Rr:Act->World->Prop}(hP:fO P L)(hk:b.kind≠.early)(hok:(l.all fun o=>bT P [] o.op)=true)(hw:∀ τ d,wpList P l.toArray (fun e x y=>e=.normal/\Rr x y) l a (tp w τ d))(hR:∀ a w τ d,Rr a w->Rr a (tp w τ d))(hn:∀ a' w',Rr a' w'->BW P (G (b.at a' k) cs) w' Φ):BW P (G (b.at a (.code (.region id l.toArray false)::k)) cs) w Φ:=by
 refine BW.region ?_;have:=BW.ops (ops:=l.toArray) (rest:=[]) (k:=k) (cs:=cs) (Φ:=Φ) (a:=a) (w:=w) l 0 hk hP (fun j hj=>by simp) hok hw hR (fun a' w' h=>BW.rend (hn a' w' h));simpa using this
end
end Cc
namespace Sr
section
variable {P:Program}{S X:Nat->Prop}{Stop:(Nat->Prop)->Goroutine->World->Prop}{b:Frame}{a:Act}{k:List Item}{cs:List Frame}{w:World}{ops:Array Oper}{i:Nat}{rest:List Nat}{o:Oper}{n:Nat}
theorem Lh(ho:ops[i]? = some o)(hw:Region.wanted o (yielded ops a.tmps)=true)(hk:b.kind≠.early){x:Operand}{t:TypeId}(hop:o.op=.load t x)(g:Nat)(hx:a.eval x=.pointer (some ⟨g,0,none⟩))(ht:∃ U,P.underlying t=some U/\(match U with|.struct _|.array _ _=>False|_=>True)){v:Value}(hc:w.cell? ⟨g,0,none⟩=some v)(hS:S g)(hn:MG P S Stop n X (G (b.at (a.put o.dst v) (.inRegion ops rest::k)) cs) w):MG P S Stop (n+1) X (G (b.at a (.inRegion ops (i::rest)::k)) cs) w:=by
 refine .inr ⟨rfl,fun ω θ=>?_⟩;have hc₁:ω.cell? ⟨g,0,none⟩=some v:=by rw[World.cell?_of_block (w:=w) (θ.sh g hS)];exact hc
 obtain⟨hr,he⟩:=St.jR (P:=P) (a:=a) (o:=o) (w:=ω) hop hx ht hc₁;refine⟨_,ω,listed P b.fn a o ω,X,stepG_value ho hw hk hr,⟨aY _,rfl,rfl,rfl,fun _ _ _=>rfl,fun _ h=>h,fun _ h=>.inl h,fun e hem=>?_⟩,hn.rely θ⟩;have:=mem_listed hem;rw[he] at this;simp at this;subst this;exact .inr ⟨.inl ⟨⟨g,0,none⟩,g,rfl,hS,World.block_lt_of_cell? (w:=ω) (a:=⟨g,0,none⟩) hc₁,rfl⟩,rfl⟩
end
end Sr
namespace St
open Sr (MG RM gZ AtRecv Rel dh oV tN wo wT Bp tZ IL wm Lh bU)
open Cc (BW fI)
open Sr (dW iM)
theorem LG:Cc.fO qp0 []:=Cc.F7 (by kernel_rfl) (Cc.zF _)
noncomputable def Xb:Code:=Tryz.f41.body.getD .skip
noncomputable def Ga:Code:=match iW with|.seq _ (.seq _ (.seq _ (.seq _ r)))=>r|_=>.skip
section
variable {P:Program}{a:Act}{o:Oper}
theorem Qx{x:Operand}{f:FuncId}{caps:Array Value}(hop:o.op=.go {callee:=.value x,args:=#[],argTypes:=#[]})(hx:a.eval x=.func (.func f) #[] caps)(w:World):(execOp a.eval o).run P w=.ok (.spawn {target:=.fn (.func f) caps,args:=#[]}) w/\(execOp a.eval o).events P w #[]=#[]:=by
 constructor
 .simp[execOp,hop,resolve,hx,Result.andThen,Deferred.ofValue]
 .simp[execOp,hop,resolve,hx,Result.evThen,Deferred.ofValue]
end
section
variable {ε:Nat×Nat}
theorem o7{S S' D:Nat->Prop}{t:Array Value}{w w':World}(h:bU qp0 (dW ε) S D t w)(hb:fI w w')(hS:∀ b,S' b->¬ D b/\b<w'.heap.size):bU qp0 (dW ε) S' D t w' :=⟨hS,h.gb,fun a ha=>CW (h.bnd a ha) hb.size,⟨fun a b hab=>by
  rw[hb.block a (h.bnd a hab.2),hb.block b (hab.1 ▸ h.bnd a hab.2)];exact h.heap.rel a b hab,fun b Zh=>by
  obtain⟨c,e,h1,h2⟩:=h.heap.opq b Zh;refine⟨c,e,?_,?_⟩ <;> (rw[hb.block b (fT.1 h1).1];exact h1),h.heap.Af⟩,h.tmps⟩
end
noncomputable def adC(wb rs:Nat)(f:Nat->Value)(v:Value):Frame :=bP.at ⟨#[f 0,f 1,f 2,f 3,pv rs,pv wb,f 6,.slice none 0 0,f 8,f 9,f 10,f 11,f 12,f 13,f 14,f 15,f 16,f 17,pv wb,v,f 20,f 21,f 22,f 23,f 24,f 25,f 26,f 27,f 28,f 29,f 30,f 31,f 32,f 33,f 34,f 35],[]⟩ [.inRegion VP [],.code (.block 0 (.loop LP)),.code YP]
structure ClP(ε:Nat×Nat)(C:Cn)(rs:Nat)(D0:Nat->Prop)(cs:List Frame)(g:Goroutine)(w:World):Prop where
 ex:∃ (n0 lb c:Nat)(wF:World)(D:Nat->Prop),Sr.aeu qp0 (iM ε) (fun b=>b=lb) c wF D (ZG n0 C.wb rs c cs) (abg C (Plain.fC C.data C.lim (C.data.length+1) 0 bW.zero)) g w /\
  fI C.w0 wF/\wF.heap.size=n0/\C.wb<n0/\C.w0.heap.size<=c/\(∀ b,D0 b->D b)/\(∀ b,D b->b<n0)/\Sr.HR (Sr.mQ D) (iM ε) wF.heap wF.heap
theorem ZC{ε:Nat×Nat}{C:Cn}(hC:C.Ok){D:Nat->Prop}{w:World}{t:Array Value}{rs:Nat}(cs:List Frame)(ht:t.size=36)(h4:t.getD 4 au=pv rs)(h5:t.getD 5 au=pv C.wb)(h7:t.getD 7 au=.slice none 0 0)(hcl:bU qp0 (dW ε) (fun _=>False) D #[] w)(hw:∀ τ,Wk (C.tp τ) .zero 0 bW.zero (tp w τ 0))(hD:D C.wb)(hB:fI C.w0 w):BW qp0 (G (bP.at ⟨t,[]⟩ [.code Ga]) cs) w (ClP ε C rs D cs):=by
 have e:=Vw ht;rw[h4,h5,h7] at e;rw[e];clear e h4 h5 h7 ht;simp only[Ga,iW,Tryz.f16,Option.getD_some];refine BW.seq ?_;refine BW.seq ?_;refine BW.region ?_;simp only[rJ,oH,List.length_nil,Nat.reduceAdd,lU,List.range'];refine BW.move rfl rfl (by decide) (.inl rfl) ?_;walk_nrm;have hname:(Tryz.f41.name == "runtime.NumGoroutine")=false:=by simp only[Tryz.f41];decide
 have hbody:Tryz.f41.body=some Xb:=by simp only[Xb,Tryz.f41,Option.getD_some]
 have hts:#[pv C.wb,.chan none]++Array.replicate (Tryz.f41.ntmps-#[pv C.wb,Value.chan none].size) au=#[pv C.wb,.chan none,au,au,au,au,au,au,au]:=by kernel_rfl
 refine Cc.BW.enter rfl rfl (by decide) rfl func41 hname hbody (vs:=#[pv C.wb,.chan none]) (by simp[Act.eval]) hts fun pf hpf=>?_
 have hpf:∀ v,pf.finish v=adC C.wb rs (fun i=>t[i]?.getD au) v:=by
  intro v;rw[hpf v];simp only[adC,VP,LP,YP,iW,Tryz.f16,Option.getD_some];rfl
 simp only[Xb,Tryz.f41,Option.getD_some];refine BW.seq ?_;apply Cc.BW.Jj (hP:=LG) (hk:=by decide) (hok:=by kernel_rfl) (Rr:=fun x y=>x=⟨#[pv C.wb,.chan none,pv w.heap.size,pv (w.heap.size+1),.chan none,au,au,au,au],[]⟩/\∃ τ d,y=tp ((w.alloc (.cells #[pv C.wb] 77)).alloc (.cells #[.chan none] 141)) τ d)
 .intro τ d;go_wp2
  exact⟨⟨rfl,rfl⟩,τ,d,rfl⟩
 .rintro x y τ d ⟨h1,jH,d',rfl⟩;exact⟨h1,τ,d,rfl⟩
 rintro a1 w1 ⟨rfl,τ,d,rfl⟩;have H6:∀ b,D b->Sr.VR (Sr.mQ (Sr.grown D w.heap.size 1)) (dW ε) (pv b) (pv b):=fun b hb=>.ptr _ _ ⟨⟨rfl,.inl hb⟩,rfl,rfl⟩
 have s1:=nu hcl (ob:=.cells #[pv C.wb] 77) (.cells _ _ _ _ (dz (by intro u hu;simp at hu;subst hu;exact H6 _ hD)));have s2:=nu s1 (ob:=.cells #[.chan none] 141) (.cells _ _ _ _ (dz (by intro u hu;simp at hu;subst hu;exact .chan _)));have hsz0:(w.alloc (.cells #[pv C.wb] 77)).heap.size=w.heap.size+1:=by simp
 have hsz1:((w.alloc (.cells #[pv C.wb] 77)).alloc (.cells #[.chan none] 141)).heap.size=w.heap.size+2:=by simp
 have hc1:((w.alloc (.cells #[pv C.wb] 77)).alloc (.cells #[.chan none] 141)).cell? ⟨w.heap.size,0,none⟩=some (pv C.wb):=by
  rw[((Below.refl _ _).alloc (aY _) _:Below (w.alloc (.cells #[pv C.wb] 77)).heap.size _ _).cell (show w.heap.size<_ by rw[hsz0];omega)];exact cell_of_row _ _ _ _ _ _ (heap_alloc_new w _)
 have hc2:((w.alloc (.cells #[pv C.wb] 77)).alloc (.cells #[.chan none] 141)).cell? ⟨w.heap.size+1,0,none⟩=some (.chan none):=by
  have:=heap_alloc_new (w.alloc (.cells #[pv C.wb] 77)) (.cells #[.chan none] 141);rw[hsz0] at this;exact cell_of_row _ _ _ _ _ _ this
 have hb1:fI w ((w.alloc (.cells #[pv C.wb] 77)).alloc (.cells #[.chan none] 141)):=.of (((Below.refl _ _).alloc (aY _) _).alloc (by rw[hsz0];omega) _);rw[hsz0] at s2;have s2:=s2.tp τ d;have hb1:=hb1.tp τ d;generalize hw1:tp ((w.alloc (.cells #[pv C.wb] 77)).alloc (.cells #[.chan none] 141)) τ d=w1;have hsz1:w1.heap.size=w.heap.size+2:=by rw[<-hw1];exact hsz1
 have hc1:w1.cell? ⟨w.heap.size,0,none⟩=some (pv C.wb):=by rw[<-hw1];exact hc1
 have hc2:w1.cell? ⟨w.heap.size+1,0,none⟩=some (.chan none):=by rw[<-hw1];exact hc2
 rw[hw1] at s2 hb1;clear hw1 s1 hsz0 H6;have hD2:∀ b,D b->Sr.grown (Sr.grown D w.heap.size 1) (w.heap.size+1) 1 b:=fun b hb=>.inl (.inl hb)
 have hDp:Sr.grown (Sr.grown D w.heap.size 1) (w.heap.size+1) 1 w.heap.size:=.inl (.inr (by omega));have hDq:Sr.grown (Sr.grown D w.heap.size 1) (w.heap.size+1) 1 (w.heap.size+1):=.inr (by omega);generalize Sr.grown (Sr.grown D w.heap.size 1) (w.heap.size+1) 1=D2 at s2 hD2 hDp hDq;refine BW.seq ?_;refine BW.region ?_;simp only[rJ,oH,List.length_nil,Nat.reduceAdd,lU,List.range'];obtain⟨inf,agd,hbytes⟩:∃ inf,qp0.info? 42=some inf/\inf.bytes=136:=by
  obtain⟨inf,h1,h2⟩:=zA.1 FW;simp only[MV] at h2;exact⟨inf,h1,h2.2.2⟩
 refine Cc.BW.makeChan rfl rfl (by decide) rfl underlying142 agd 0 rfl (by decide) (by rw[hbytes];decide) ?_;walk_nrm;have hcc:(w1.alloc (.chan 0 #[] false 0 0 false)).heap[w1.heap.size]? = some (.chan 0 #[] false 0 0 false):=heap_alloc_new w1 _;have hb2:fI w1 (w1.alloc (.chan 0 #[] false 0 0 false)):=.of ((Below.refl _ _).alloc (aY _) _);have hsz2:(w1.alloc (.chan 0 #[] false 0 0 false)).heap.size=w1.heap.size+1:=by simp
 generalize w1.alloc (.chan 0 #[] false 0 0 false)=w2 at hcc hb2 hsz2 ⊢;have HS1:=ah hsz1;have HS2:=ah hsz2;clear hsz1 hsz2;refine Cc.BW.TV (pv w2.heap.size) (Rw:=fun y=>fI w2 y/\y.heap[w2.heap.size]? = some (.cells #[.chan none] 142)/\y.heap.size=w2.heap.size+1) LG rfl (by decide) rfl (fun τ d=>?_) (fun w' τ d hr=>⟨hr.1.tp τ d,hr.2.1,hr.2.2⟩) fun w3 hr3=>?_
 .go_wp2
  exact⟨rfl,.pR (τ:=τ) (d:=d) ((Below.refl _ (tp w2 τ d)).alloc (aY _) _),heap_alloc_new _ _,by first|rfl|simp⟩
 obtain⟨hb3,hl3,aed⟩:=hr3;walk_nrm;refine Cc.BW.TV au (Rw:=fun y=>fI w2 y/\y.heap[w2.heap.size]? = some (.cells #[.chan (some w1.heap.size)] 142)/\y.heap.size=w2.heap.size+1) LG rfl (by decide) rfl (fun τ d=>?_) (fun w' τ d hr=>⟨hr.1.tp τ d,hr.2.1,hr.2.2⟩) fun w4 hr4=>?_
 .have KY:=ah aed;clear aed;have hg:=Gr.aO (w:=tp w3 τ d) hl3 (j:=0) (.chan (some w1.heap.size));refine wpList_store_one rfl _ _ _ rfl w2.heap.size rfl rfl 142 _ hl3 (by kernel_rfl) ⟨rfl,rfl,?_,setRow_heap _ _ _ _ _ _ hl3,?_⟩
  .exact .pR (τ:=τ) (d:=d) ⟨hb3.os,rfl,hb3.output,by simp;exact hb3.size,fun k hk=>(setRow_other _ _ _ _ (Nat.ne_of_lt hk)).trans (hb3.block k hk)⟩
  .simp;exact KY.out
 obtain⟨hb4,hl4,Zd⟩:=hr4;clear hb3 hl3 aed;walk_nrm;refine BW.rend ?_;refine BW.seq ?_;refine BW.region ?_;simp only[rJ,oH,List.length_nil,Nat.reduceAdd,lU,List.range'];refine BW.jU rfl rfl (by decide) _ (fun ω=>Jk (vs:=#[pv w2.heap.size,pv w.heap.size,pv (w.heap.size+1)]) rfl (by simp[Act.eval]) ω) ?_;walk_nrm;have hcs:w4.heap.size=w1.heap.size+2:=by rw[Zd,HS2.out]
 have hc4:w4.heap[w1.heap.size]? = some (.chan 0 #[] false 0 0 false):=by rw[hb4.block _ (by rw[HS2.out];omega)];exact hcc
 have XW:fI w1 w4:=hb2.seq hb4;have UA:fI w w4:=hb1.seq XW;have hlc:w4.cell? ⟨w2.heap.size,0,none⟩=some (.chan (some w1.heap.size)):=cell_of_row _ _ _ _ _ _ hl4;have hlD:¬ D2 w2.heap.size:=fun h=>by have:=s2.bnd _ h;have:=HS2.out;omega
 have s4:bU qp0 (dW ε) (fun b=>b=w2.heap.size) D2 #[] w4:=o7 s2 XW fun b hb=>by subst hb;exact⟨hlD,by rw[Zd];omega⟩
 have s4':bU qp0 (dW ε) (fun _=>False) D2 #[] w4:=o7 s2 XW fun b hb=>hb.elim
 have hDn:∀ a b,Sr.mQ D2 a b->Sr.mQ (fun b=>D2 b\/b=w2.heap.size) a b:=fun a b h=>⟨h.1,.inl h.2⟩
 have hheap:Sr.HR (Sr.mQ (fun b=>D2 b\/b=w2.heap.size)) (iM ε) w4.heap w4.heap:=by
  refine Sr.HR.lift ⟨fun a b hab=>?_,s4.heap.opq,fun a b hab=>?_⟩
  .obtain⟨rfl,hab⟩:=hab;rcases hab with hab|rfl
   .exact(s4.heap.rel a a ⟨rfl,hab⟩).mono hDn
   .rw[hl4];exact .some (.cells _ _ _ _ (dz (by intro u hu;simp at hu;subst hu;exact .chan _)))
  .obtain⟨rfl,hab⟩:=hab;rcases hab with hab|rfl
   .exact s4.heap.Af a a ⟨rfl,hab⟩
   .have hf:(dW ε) (2*w2.heap.size+1000000001)=false:=by
     cases hx:(dW ε) (2*w2.heap.size+1000000001) with
     | false=>rfl
     | true=>have:=s2.heap.oq _ hx;have:=HS2.out;omega
    exact⟨hf,hf⟩
 have hgb:Sr.GB qp0 (Sr.mQ (fun b=>D2 b\/b=w2.heap.size)):=by
  refine⟨⟨fun a a' b h h'=>h.1.trans h'.1.symm,fun a b b' h h'=>h.1.symm.trans h'.1⟩,fun g hg b h=>h.1.symm,fun g hg a h=>h.1,fun g hg=>⟨rfl,.inl (s4.gb.gl g hg).2⟩⟩
 have hws:∀ d',Sr.WS qp0 (iM ε) (fun _=>true) (fun b=>b=w2.heap.size) w1.heap.size Wu (abg C (Plain.fC C.data C.lim (C.data.length+1) 0 bW.zero)) (Plain.fC C.data C.lim (C.data.length+1) 0 bW.zero).ents.length [] (Gh (Gf w2.heap.size w.heap.size (w.heap.size+1))) [] (w4.at d'):=fun d'=>by
  have hlt:=hw w4.tape;have acE:C.wb<w.heap.size:=hcl.bnd _ hD;have agW:C.mb<w.heap.size:=hlt.long.lt;have:=HS1.out;have:=HS2.out;refine UE (A:=.zero) hC (w4.at d') hlc (by rw[<-hc1];exact World.cell?_of_block (XW.block _ (show w.heap.size<_ by rw[HS1.out];omega))) (by rw[<-hc2];exact World.cell?_of_block (XW.block _ (show w.heap.size+1<_ by rw[HS1.out];omega))) (by omega) (by omega) (by omega) (by omega) (hlt.below ⟨UA.os,rfl,UA.output,UA.size,UA.block⟩) (s4.tp w4.tape d') (hD2 _ hD) Wu.en
 refine(Sr.Z7 (K:=fun _=>true) (D:=fun b=>D2 b\/b=w2.heap.size) (S:=fun b=>b=w2.heap.size) (c:=w1.heap.size) (w0:=w4) (z:=.agg fZ) (Sh:=Wu) (Fin:=ZG w4.heap.size C.wb rs w1.heap.size cs) (fU:=abg C (Plain.fC C.data C.lim (C.data.length+1) 0 bW.zero)) (m:=(Plain.fC C.data C.lim (C.data.length+1) 0 bW.zero).ents.length) rfl (Sr.ae2 ε) (Sr.ac4 ε) Wu.image hgb ?_ ?_ ?_ (fun b hb=>.inr hb) (Sr.HR.oq hheap) hheap hc4 fun d'=>?_).mono fun g' w' hk=>⟨w4.heap.size,w2.heap.size,w1.heap.size,w4,_,hk,?_,rfl,?_,?_,?_,?_,hheap⟩
 .rintro a (ha|rfl)
  .exact s4.bnd a ha
  .rw[Zd];omega
 .rintro (h|h)
  .have:=s2.bnd _ h;omega
  .rw[HS2.out] at h;omega
 .rintro b rfl;rw[Zd];omega
 .have ahr:=hws d';refine⟨_,Gh (Gf w2.heap.size w.heap.size (w.heap.size+1)),[],d',_,stepG_spawn rfl rfl (by decide) (Qx rfl rfl _).1 rfl,aY _,?_,?_,?_,ahr⟩
  .rw[listed_none (Qx rfl rfl _).2];simp
  .exact Sr.aay ⟨.fn _ (by kernel_rfl) _ _ (dz (by
    intro u hu;simp at hu;rcases hu with rfl|rfl|rfl
    .exact .ptr _ _ ⟨⟨rfl,.inr rfl⟩,rfl,rfl⟩
    .exact .ptr _ _ ⟨⟨rfl,.inl hDp⟩,rfl,rfl⟩
    .exact .ptr _ _ ⟨⟨rfl,.inl hDq⟩,rfl,rfl⟩)),.nil⟩
  .walk_nrm;have hlen:(Plain.fC C.data C.lim (C.data.length+1) 0 bW.zero).ents.length*136<=140737488355328:=by
    have h1:0+512*(Plain.fC C.data C.lim (C.data.length+1) 0 bW.zero).ents.length<=C.data.length:=Plain.abd C.data C.lim 0 bW.zero (M8 _);have h2:=hC.dat.len;have h3:=hC.dn;omega
   have next:∀ (t':Array Value)(ω:World),HP C.wb rs w1.heap.size t' none 0 0->w4.heap.size<=ω.heap.size->gZ qp0 (fun b=>b=w2.heap.size) w1.heap.size (.agg fZ) Wu (ZG w4.heap.size C.wb rs w1.heap.size cs) (Plain.fC C.data C.lim (C.data.length+1) 0 bW.zero).ents.length [] (fun _=>False) (PV cs t' [0,1]) ω :=
    fun t' ω hP hs=>Xd cs _ hlen _ [] (fun _=>False) t' none 0 ω hP ⟨World.ownsRow_nil _ _ _ _,fun b hb=>(by cases hb),hs⟩ (by simp)
   generalize (Plain.fC C.data C.lim (C.data.length+1) 0 bW.zero).ents.length=m at next
   refine(Sr.Dk ..).2 ⟨20,?_⟩;refine dh rfl (fun _=>stepG_region_end) ?_;refine dh rfl (fun _=>stepG_seq) ?_;refine dh rfl (fun _=>stepG_region) ?_;simp only[rJ,oH,List.length_nil,Nat.reduceAdd,lU,List.range,List.range.loop];refine Lh rfl rfl (by decide) rfl w2.heap.size rfl ⟨_,underlying142,trivial⟩ hlc rfl ?_;walk_nrm;refine tN rfl rfl (by decide) (.inr rfl) ?_;walk_nrm;refine dh rfl (fun _=>stepG_region_end) ?_;refine dh rfl (fun _=>stepG_ret') ?_;refine dh rfl (fun w=>stepG_leave (v:=.chan (some w1.heap.size)) rfl rfl func41 (show(results Tryz.f41 _).run qp0 w=_ by kernel_rfl) (show(results Tryz.f41 _).events qp0 w #[]=_ by kernel_rfl)) ?_;rw[hpf];simp only[adC,VP,PV,Gv,LP2,LP,YP,iW,Tryz.f16,Option.getD_some] at next ⊢
   refine dh rfl (fun _=>stepG_region_end) ?_;refine dh rfl (fun _=>stepG_block) ?_;refine dh rfl (fun _=>stepG_loop) ?_;refine dh rfl (fun _=>stepG_seq) ?_;refine dh rfl (fun _=>stepG_region) ?_;simp only[rJ,oH,List.length_nil,Nat.reduceAdd,lU,List.range,List.range.loop];exact wm fun w₅ h₅=>next _ w₅ ⟨rfl,rfl,rfl,rfl,rfl⟩ h₅.size
 .exact hB.seq UA
 .exact CW (hcl.bnd _ hD) UA.size
 .exact tT (show C.w0.heap.size<=w.heap.size from hB.size) (show w.heap.size<=w1.heap.size from hb1.size)
 .exact fun b hb=>.inl (hD2 b hb)
 .rintro b (hb|rfl)
  .exact s4.bnd b hb
  .rw[Zd];omega
end St
end
section
open Go.Conc
open Cc (tp)
namespace St
open Cc (BW fI)
open Sr (dW iM VR AV OR OO HR GB LV)
section
variable {R:Nat->Nat->Prop}{L:FuncId->Bool}
theorem KD{cur cur':Array Value}(h:AV R L cur cur'){k:Nat}{l:List UInt8}(ht:cur.toList.take k=l.map jJ):cur'.toList.take k=l.map jJ:=by
 refine List.ext_getElem? fun i=>?_
 by_cases hi:i<k
 .have e1:=congrArg (·[i]?) ht;simp only[VX,hi,if_true,qaV] at e1 ⊢;rcases h.get i with⟨h1,h2⟩|⟨v,u,h1,h2,hv⟩
  .rw[h2,<-e1,h1]
  .rw[h2,<-e1,h1];have:∃ x,v=jJ x:=by
    rw[h1,qcw] at e1;obtain⟨x,_,hx⟩:=zA.1 e1.symm;exact⟨x,hx.symm⟩
   obtain⟨x,rfl⟩:=this
   cases hv
   rfl
 .have e1:=congrArg List.length ht;simp only[zQ,V7,U5] at e1;rw[qco (by simp;omega)];rw[qco (by simp;omega)]
theorem Sw{P:Program}{wg w:World}{N n0 wb:Nat}{xs:Array Value}(hgb:GB P R)(hh:HR R L wg.heap w.heap)(hlow:∀ a b,R a b->b<N->a=b)(hwb:R wb wb)(hxw:wg.heap[wb]? = some (.cells xs 85)){e:En}{x:Option Addr×Nat×Nat}(ho:iw wg N (e,x)){v:Value}(hv:VR R L (.agg (sS (e,x))) v):∃ x',v=.agg (sS (e,x'))/\iw w N (e,x')/\∀ b,(Value.slice x'.1 x'.2.1 x'.2.2).ownBlock=some b->b≠wb:=by
 obtain⟨a,n,c⟩:=x;have key:∀ a':Option Addr,VR R L (.slice a n c) (.slice a' n c)->v=.agg (sS (e,(a',n,c))):=fun a' ha=>by
  refine VR.fn hgb.fn (fun a b h=>(hh.Af a b h).1) hv (VR.DC ⟨rfl,fun i p q hp hq=>?_⟩)
  match i with
  | 10 =>
   have hp:some (Value.slice a n c)=some p:=hp;have hq:some (Value.slice a' n c)=some q:=hq
   cases hp;cases hq;exact ha
  | 0|1|2|3|4|5|6|7|8|9 =>
   cases hp;cases hq;constructor
  | k+11=>rw[MW (show 11<=k+11 by omega)] at hp;cases hp
 have h10:∃ u,VR R L (.slice a n c) u:=by
  cases hv with
  | agg X Y hs hp =>
   have hlt:10<Y.size:=by rw[<-hs];show 10<11;decide
   exact⟨Y[10],hp 10 _ _ rfl (mJ hlt)⟩
 obtain⟨u,hu⟩:=h10;obtain⟨hlen,hown⟩:=ho;rcases hown with⟨h1,h2⟩|⟨g,cap,cur,h1,h2,h3,h4,h5,h6,h7⟩
 .cases h1
  exact⟨(none,0,0),key none (.iq 0 0),⟨hlen,.inl ⟨rfl,rfl⟩⟩,fun b hb=>by cases hb⟩
 .cases h1
  cases hu with
  | slice A B n c hab =>
   obtain⟨bb,bo,bp⟩:=B;obtain⟨hR,ho,hp⟩:=hab;simp only at hR ho hp;subst ho hp;have Fp:=hh.rel g bb hR;rw[h3] at Fp;generalize hbb:w.heap[bb]? = ob at Fp
   cases Fp with
   | some hor =>
    cases hor with
    | cells X Y E f AY =>
     refine⟨(some ⟨bb,0,none⟩,n,c),key _ (.slice _ _ _ _ ⟨hR,rfl,rfl⟩),⟨hlen,.inr ⟨bb,c,Y,rfl,?_,hbb,h4,h5,by rw[<-AY.1];exact h6,KD AY h7⟩⟩,fun b hb=>?_⟩
     .rcases qb7 bb N with h|h
      .have:=hlow _ _ hR h;subst this;exact absurd h2 (by omega)
      .exact h
     .cases hb
      intro e1;have e1:bb=wb:=e1;subst e1;have:=hgb.inj _ _ _ hR hwb;subst this;rw[h3] at hxw
      cases hxw
theorem Db{P:Program}{wg w:World}{N n0 wb:Nat}{xs:Array Value}(hgb:GB P R)(hh:HR R L wg.heap w.heap)(hlow:∀ a b,R a b->b<N->a=b)(hwb:R wb wb)(hxw:wg.heap[wb]? = some (.cells xs 85)):∀ {vs acc:List Value}{es:List En},LV R L vs acc->qH wg N vs es->∃ Q:List EU,Q.map (·.1)=es/\acc=Q.map (fun e=>.agg (sS e))/\∀ e∈Q,iw w N e/\∀ b,(Value.slice e.2.1 e.2.2.1 e.2.2.2).ownBlock=some b->b≠wb
 | _,_,es,.nil,he=>⟨[],(O8 (by have:=he.1;simpa using this.symm)).symm,rfl,fun e h=>by cases h⟩
 | v::vs,u::acc,[],.cons hv h,he=>absurd he.1 (by simp)
 | v::vs,u::acc,e::es,.cons hv h,he=>by
  obtain⟨x,rfl,ho⟩:=he.2 0 v e rfl rfl;obtain⟨x',rfl,h1,h2⟩:=Sw (n0:=n0) hgb hh hlow hwb hxw ho hv;obtain⟨Q,rfl,rfl,h3⟩:=Db (n0:=n0) hgb hh hlow hwb hxw h ⟨by have:=he.1;simpa using this,fun i v e hv he'=>he.2 (i+1) v e hv he'⟩;refine⟨(e,x')::Q,rfl,rfl,fun y hy=>?_⟩;rcases rD.1 hy with rfl|hy
  .exact⟨h1,h2⟩
  .exact h3 y hy
end
structure aeM(C:Cn)(rs:Nat)(R:Plain.Pz)(cs:List Frame)(g:Goroutine)(w:World):Prop where
 ex:∃ (n0 c:Nat)(t:Array Value)(x:Option Addr)(n cp:Nat)(Q:List EU)(ys:Array Value),g=PV cs t [1]/\HP C.wb rs c t x n cp/\t.getD 20 au=.tuple #[.agg fZ,.bool false] /\
  Q.map (·.1)=R.ents/\w.ownsRow n0 42 11 (.slice x n cp) n (Q.flatMap fG)/\(∀ e∈Q,iw w C.w0.heap.size e/\∀ b,(Value.slice e.2.1 e.2.2.1 e.2.2.2).ownBlock=some b->b≠C.wb) /\
  w.heap[C.wb]? = some (.cells ys 85)/\ys.size=12/\ys[4]? = some (.slice none 0 0)/\ys[5]? = some (.int .i64 R.code)/\ys[6]? = some (.int .i64 R.off)/\ys[7]? = some (.int .i64 R.held)/\C.wb<n0/\C.w0.heap.size<=n0
 bJ:fI C.w0 w
theorem adO{ε:Nat×Nat}{C:Cn}{rs:Nat}{D0:Nat->Prop}{cs:List Frame}{g:Goroutine}{w:World}(h:ClP ε C rs D0 cs g w)(hwb:D0 C.wb)(hw0:C.w0.heap.size<=C.wb):aeM C rs (Plain.fC C.data C.lim (C.data.length+1) 0 bW.zero) cs g w:=by
 obtain⟨n0,lb,c,wF,D,⟨X,R,wg,vs,acc,hfin,hfg,hlv,hgb,PK,hhr,hown⟩,hbel,hn0,acE,hc,hD0,hDlt,hhF⟩:=h.ex;generalize Plain.fC C.data C.lim (C.data.length+1) 0 bW.zero=RR at hfg ⊢;obtain⟨t,x,cp,rfl,hP,agK,hr⟩:=hfin;obtain⟨A,s,aga,hwk,agD,hlw⟩:=hfg;have hNn:C.w0.heap.size<=n0:=by rw[<-hn0];exact hbel.size
 have hlow:∀ a b,R a b->b<C.w0.heap.size->a=b:=fun a b hab hb=>(hown.low a b hab (by rw[hn0];omega)).1
 have hRw:R C.wb C.wb:=hown.sup _ _ ⟨rfl,hD0 _ hwb⟩;obtain⟨Q,hQ1,hQ2,hQ3⟩:=Db (w:=w) (n0:=n0) hgb hhr hlow hRw hwk hlv agD;have Fp:=hhr.rel _ _ hRw;rw[show wg.heap[C.wb]? = _ from hwk] at Fp;generalize hbb:w.heap[C.wb]? = ob at Fp
 cases Fp with
 | some hor =>
  cases hor with
  | cells Xs Y E f AY =>
   have hys:Y.size=12:=by rw[<-AY.1];rfl
   have hy:∀ i v,(VH C A RR.off s RR.code RR.off)[i]? = some v->VR R (iM ε) v v->(∀ u,VR R (iM ε) v u->u=v)->Y[i]? = some v:=fun i v hv _ hu=>by
    rcases AY.get i with⟨h1,_⟩|⟨p,q,h1,h2,h3⟩
    .rw[hv] at h1;cases h1
    .rw[hv] at h1;cases h1
     rw[h2,hu q h3]
   refine⟨⟨n0,c,t,x,acc.length,cp,Q,Y,rfl,hP,agK,hQ1,?_,hQ3,hbb,hys,?_,?_,?_,?_,acE,hNn⟩,?_⟩
   .have:=hr.own;have e:flat acc=Q.flatMap fG:=by rw[hQ2];unfold flat;rw[List.flatMap_map];rfl
    rw[e] at this;exact this
   .exact hy 4 _ rfl (.iq 0 0) fun u hu=>by cases hu;rfl
   .exact hy 5 _ rfl (.int _ _) fun u hu=>by cases hu;rfl
   .exact hy 6 _ rfl (.int _ _) fun u hu=>by cases hu;rfl
   .rw[<-aga];exact hy 7 _ rfl (.int _ _) fun u hu=>by cases hu;rfl
   .refine⟨hown.os.trans hbel.os,rfl,hown.out.trans hbel.output,tT hbel.size hown.E8,fun b hb=>?_⟩;have hbF:wF.heap[b]? = C.w0.heap[b]?:=hbel.block b hb;refine Eq.trans ?_ hbF;by_cases hR:∃ a,R a b
    .obtain⟨a,hab⟩:=hR;have hid:=hown.low a b hab (by rw[hn0];omega);obtain⟨rfl,hDb⟩:=hid;have h1:=hhr.rel a a hab;rw[hlw a hb,<-hbF] at h1;exact OO.fn (L:=iM ε) hgb.fn (fun a b h=>(hhr.Af a b h).1) h1 ((hhF.rel a a ⟨rfl,hDb⟩).mono hown.sup)
    .exact hown.frame b (by rw[hn0];omega) (fun a ha=>hR ⟨a,ha⟩) (by omega)
end St
end
section
open Go.Conc
open Cc (tp)
namespace Cc
section
variable {P:Program}{w:World}{Φ:Goroutine->World->Prop}{b:Frame}{a:Act}{k:List Item}{cs:List Frame}{o:Oper}
theorem lK{x:Operand}{ad:Addr}(hop:o.op=.nilCheck x)(hx:a.eval x=.pointer (some ad))(w:World):(execOp a.eval o).run P w=.ok (.value (.pointer (some ad))) w/\(execOp a.eval o).events P w #[]=#[]:=by
 simp only[Act.eval,Az] at hx;constructor
 .unfold execOp;simp[go_sem,hop,hx]
 .unfold execOp;simp[go_sem,hop,hx]
theorem pJ{x:Operand}{ad:Addr}{s:TypeId}{f:Nat}{fs:Array Field}{fl:Field}(hop:o.op=.fieldAddr s x f)(hx:a.eval x=.pointer (some ad))(hu:P.underlying s=some (.struct fs))(hf:fs[f]? = some fl)(hi0:(P.info? fl.type).map (fun i=>i.size==0)=some false)(w:World):(execOp a.eval o).run P w=.ok (.value (.pointer (some (ad.add fl.offset)))) w/\(execOp a.eval o).events P w #[]=#[]:=by
 simp only[Act.eval,Az] at hx;obtain⟨inf,hi,hne⟩:=zA.1 hi0;have hne:inf.size≠0:=by simpa using hne
 constructor
 .unfold execOp;simp[go_sem,hop,hx,Instr.fieldAt,run_underlying hu,hf,Instr.sureAddr,fieldPlace,sizeOf,typeInfo,hi,hne]
 .unfold execOp;simp[go_sem,hop,hx,Instr.fieldAt,run_underlying hu,hf,Instr.sureAddr,fieldPlace,sizeOf,typeInfo,hi,hne]
theorem BW.NC{fn:Func}{todo:List Item}{c:Frame}{v:Value}(hn:b.kind=.normal)(hd:a.defers=[])(hf:P.funcs[b.fn]? = some fn)(hr:∀ d,(results fn a.tmps).run P (w.at d)=.ok v (w.at d))(h:BW P (G (c.finish v) cs) w Φ):BW P (G {b.at a todo with mode:=.returning} (c::cs)) w Φ:=by
 refine BW.step rfl fun d=>?_
 obtain⟨n,r,es',hres⟩:=dZ (kS (P:=P) fn a.tmps) (w.at d) #[];have hlow:=qR hres.low;have h1:r=.ok v (w.at d):=by
  have:((results fn a.tmps).runT P (w.at d) #[]).1=.ok v (w.at d):=by rw[Sem.runT_fst];exact hr d
  rw[hres.eq] at this;exact this
 subst h1;have hev:(results fn a.tmps).events P (w.at d) #[]=es':=by unfold Sem.events;rw[hres.eq]
 refine⟨_,w.at d,seen P b.fn es',?_,aY _,fM hlow,h.at d⟩;simp[G,stepG,unwind,doReturn,Frame.at,hn,hd,hf,hr d,hev,GStep.after]
end
end Cc
namespace St
open Cc (BW fI eP lK pJ)
structure PsR(w0:World)(B:Nat)(rs:Nat)(R:Plain.Pz)(v:Value)(w:World):Prop where
 ex:∃ (x:Option Addr)(n cp:Nat)(Q:List EU),v=.agg #[.slice x n cp,.int .i64 R.code,.int .i64 R.off,.int .i64 R.held]/\Q.map (·.1)=R.ents/\w.ownsRow B 42 11 (.slice x n cp) n (Q.flatMap fG)/\∀ e∈Q,iw w B e
 os:w.os=w0.os
 out:w.output=w0.output
 size:w0.heap.size<=w.heap.size
 block:∀ b,b<w0.heap.size->b≠rs->w.heap[b]? = w0.heap[b]?
structure RL(g:Nat)(w w':World):Prop where
 os:w'.os=w.os
 out:w'.output=w.output
 size:w.heap.size<=w'.heap.size
 block:∀ b,b<w.heap.size->b≠g->w'.heap[b]? = w.heap[b]?
theorem RL.tp{g:Nat}{w w':World}(h:RL g w w')(τ:Nat->Question->Nat)(d:Nat):RL g w (tp w' τ d):=⟨h.os,h.out,h.size,h.block⟩
theorem aao{C:Cn}{rs:Nat}{R:Plain.Pz}{cs:List Frame}{cf:Frame}{g:Goroutine}{w:World}{Φ:Goroutine->World->Prop}{z:Array Value}(h:aeM C rs R (cf::cs) g w)(hrs:C.w0.heap[rs]? = some (.cells z 30))(hz:z.size=4)(hwb:C.w0.heap.size<=C.wb)(hn:∀ v w',PsR C.w0 C.w0.heap.size rs R v w'->BW qp0 (G (cf.finish v) cs) w' Φ):BW qp0 g w Φ:=by
 obtain⟨⟨n0,c,t,x,n,cp,Q,ys,rfl,hP,ht,hQ,hown,hdat,hrow,hys,y4,y5,y6,y7,hlt,hle⟩,hbel⟩:=h;have e:=Vw hP.size;rw[hP.res,hP.wk,hP.list,hP.chan,ht] at e;rw[e];clear e hP ht;simp only[PV,Gv,LP2,LP,YP,iW,Tryz.f16,Option.getD_some];refine BW.jU rfl rfl (by decide) _ (fun ω=>eP rfl rfl rfl ω) ?_;walk_nrm;refine BW.rend ?_;refine BW.seq ?_;refine BW.cond (t:=false) rfl ?_;simp only[jI,if_false];refine BW.ctl rfl (fun _=>stepG_exit rfl) ?_;refine BW.seq ?_;refine BW.region ?_;simp only[rJ,oH,List.length_nil,Nat.reduceAdd,lU,List.range'];refine BW.move rfl rfl (by decide) (.inl rfl) ?_;walk_nrm;refine BW.move rfl rfl (by decide) (.inl rfl) ?_;walk_nrm;refine BW.jU rfl rfl (by decide) _ (fun ω=>lK rfl rfl ω) ?_;walk_nrm;refine BW.jU rfl rfl (by decide) _ (fun ω=>pJ rfl rfl underlying85 rfl (by kernel_rfl) ω) ?_;walk_nrm;refine BW.jU rfl rfl (by decide) _ (fun ω=>pJ rfl rfl underlying30 rfl (by kernel_rfl) ω) ?_;walk_nrm;refine Cc.BW.TV au (Rw:=fun y=>RL C.wb w y/\y.heap[C.wb]? = some (.cells (ys.setIfInBounds 4 (.slice x n cp)) 85)) LG rfl (by decide) rfl (fun τ d=>?_) (fun w' τ d hr=>⟨hr.1.tp τ d,hr.2⟩) fun w1 hr1=>?_
 .have hx1:(tp w τ d).cell? ⟨C.wb,4,none⟩=some (.slice none 0 0):=(Gr.aG (w:=tp w τ d) hrow 4).trans y4;have hx2:=Gr.aS (w:=tp w τ d) hrow 4;have hx3:=Gr.aO (w:=tp w τ d) hrow (j:=4) (.slice x n cp);have hg:=Gr.aD (tp w τ d) C.wb 4 (.slice x n cp);go_wp2
  exact⟨hg.os,hg.output,hg.size,fun b hb hne=>hg.block b hb (fun e=>hne (pQ e))⟩
 obtain⟨hb1,afp⟩:=hr1;walk_nrm;refine BW.rend ?_;refine BW.seq ?_;refine BW.region ?_;simp only[rJ,oH,List.length_nil,Nat.reduceAdd,lU,List.range'];refine BW.move rfl rfl (by decide) (.inl rfl) ?_;walk_nrm;refine BW.jU rfl rfl (by decide) _ (fun ω=>lK rfl rfl ω) ?_;walk_nrm;refine BW.jU rfl rfl (by decide) _ (fun ω=>pJ rfl rfl underlying85 rfl (by kernel_rfl) ω) ?_;walk_nrm;have hcell:∀ j,w1.cell? ⟨C.wb,j,none⟩=(ys.setIfInBounds 4 (.slice x n cp))[j]?:=fun j=>Gr.aG afp j
 have h4:(ys.setIfInBounds 4 (.slice x n cp))[4]? = some (.slice x n cp):=by rw[Sn (by omega)]
 have h5:(ys.setIfInBounds 4 (.slice x n cp))[5]? = some (.int .i64 R.code):=by rw[ow (by decide)];exact y5
 have h6:(ys.setIfInBounds 4 (.slice x n cp))[6]? = some (.int .i64 R.off):=by rw[ow (by decide)];exact y6
 have h7:(ys.setIfInBounds 4 (.slice x n cp))[7]? = some (.int .i64 R.held):=by rw[ow (by decide)];exact y7
 refine Cc.BW.TV (.agg #[.slice x n cp,.int .i64 R.code,.int .i64 R.off,.int .i64 R.held]) (Rw:=fun y=>∃ τ d,y=tp w1 τ d) LG rfl (by decide) rfl (fun τ d=>?_) (fun w' τ d hr=>⟨τ,d,by obtain⟨_,_,rfl⟩:=hr;rfl⟩) fun w2 hr2=>?_
 .refine cK rfl _ _ rfl C.wb 4 rfl #[.slice x n cp,.int .i64 R.code,.int .i64 R.off,.int .i64 R.held] _ (fun j v hj=>?_) underlying30 rfl (by kernel_rfl) ⟨rfl,rfl,τ,d,rfl⟩;show w1.cell? _=_;rw[hcell]
  match j with
  | 0=>cases hj;exact h4
  | 1=>cases hj;exact h5
  | 2=>cases hj;exact h6
  | 3=>cases hj;exact h7
  | k+4=>rw[qco (show 4<=k+4 by omega)] at hj;cases hj
 obtain⟨τ,d,rfl⟩:=hr2;walk_nrm;have afT:rs<C.w0.heap.size:=(fT.1 hrs).1;have ahx:C.w0.heap.size<=w.heap.size:=hbel.size;have afJ:w1.heap[rs]? = some (.cells z 30):=by
  rw[hb1.block rs (by omega) (by omega),hbel.block rs afT];exact hrs
 refine Cc.BW.TV au (Rw:=fun y=>RL rs w1 y/\y.heap[rs]? = some (.cells #[.slice x n cp,.int .i64 R.code,.int .i64 R.off,.int .i64 R.held] 30)) LG rfl (by decide) rfl (fun τ d=>?_) (fun w' τ d hr=>⟨hr.1.tp τ d,hr.2⟩) fun w3 hr3=>?_
 .refine wpList_store_row rfl _ _ _ rfl rs rfl #[.slice x n cp,.int .i64 R.code,.int .i64 R.off,.int .i64 R.held] rfl z 30 afJ (by rw[hz];rfl) (by kernel_rfl) (by intro u hu;simp at hu;rcases hu with rfl|rfl|rfl|rfl <;> rfl) ⟨rfl,rfl,⟨rfl,rfl,by rw[size_setRow];exact aY _,fun b hb hne=>setRow_other _ _ _ _ hne⟩,setRow_heap _ _ _ _ _ _ afJ⟩
 obtain⟨hb3,hrow3⟩:=hr3;walk_nrm;refine BW.rend ?_;refine BW.ret ?_;refine Cc.BW.NC (v:=.agg #[.slice x n cp,.int .i64 R.code,.int .i64 R.off,.int .i64 R.held]) rfl rfl func16 (fun d'=>results_cell_row rfl _ _ rs _ _ _ _ rfl hrow3 underlying30 rfl (by kernel_rfl)) ?_;have keep:∀ {B sz m:Nat}{e:TypeId}{u:Value}{xs:List Value},w.ownsRow B e sz u m xs->(∀ b,u.ownBlock=some b->b≠C.wb/\b≠rs)->w3.ownsRow B e sz u m xs:=fun ho hne=>Gr.gJ ho fun b hb=>by
  have hbl:=(ho.lt b hb).2;have:=hb1.size;rw[hb3.block b (by omega) (hne b hb).2,hb1.block b hbl (hne b hb).1]
 refine hn _ _ ⟨⟨x,n,cp,Q,rfl,hQ,World.ownsRow.mono (keep hown fun b hb=>?_) hle,fun e he=>keep (hdat e he).1 fun b hb=>⟨(hdat e he).2 b hb,?_⟩⟩,?_,?_,?_,fun b hb hne=>?_⟩
 .have:=(hown.lt b hb).1;omega
 .have:=((hdat e he).1.lt b hb).1;omega
 .exact hb3.os.trans (hb1.os.trans hbel.os)
 .exact hb3.out.trans (hb1.out.trans hbel.output)
 .exact tT ahx (tT hb1.size hb3.size)
 .have:=hb1.size;rw[hb3.block b (by omega) hne,hb1.block b (by omega) (by omega)];exact hbel.block b hb
end St
end
section
open Go.Conc
open Cc (tp)
namespace St
open Cc (BW fI eP lK pJ)
open Sr (dW iM bU gB dR kg uE)
noncomputable def cP0:Code:=match iW with|.seq c _=>c|_=>.skip
noncomputable def cP1:Code:=match iW with|.seq _ (.seq c _)=>c|_=>.skip
noncomputable def cP2:Code:=match iW with|.seq _ (.seq _ (.seq c _))=>c|_=>.skip
noncomputable def cP4:Code:=match iW with|.seq _ (.seq _ (.seq _ (.seq c _)))=>c|_=>.skip
noncomputable def Gn:List Code:=[cP1,cP2,cP4]
theorem WT:iW=.seq cP0 (dR Gn Ga):=by
 simp only[Gn,dR,cP0,cP1,cP2,cP4,Ga,iW,Tryz.f16,Option.getD_some]
def Q0P(w:World)(a:Option Addr)(n c:Nat)(lim:kG)(rs:Nat):Exit->Act->World->Prop
 | .normal,x,w'=>Plain.eT lim=true/\x.defers=[]/\x.tmps.size=36/\x.tmps.getD 4 au=pv rs/\x.tmps.getD 5 au=pv (w.heap.size+2)/\x.tmps.getD 7 au=.slice none 0 0/\∃ τ d,w'=tp (Fy w a n c lim) τ d
 | .ret,x,w'=>Plain.eT lim=false/\x.defers=[]/\x.tmps.getD 4 au=pv rs/\∃ τ d,w'=tp ((rC w lim).setRow rs #[.slice none 0 0,.int .i64 78,.int .i64 0,.int .i64 0]) τ d
 | _,_,_=>False
def tP0(a:Option Addr)(n c:Nat)(lim:kG)(N:Nat):Array Value:=#[.slice a n c,nV lim,au,pv N,pv (N+1),au,au,au,au,au,au,au,au,au,au,au,au,au,au,au,au,au,au,au,au,au,au,au,au,au,au,au,au,au,au,au]
section
variable {ε:Nat×Nat}
theorem abl:kg qp0 (dW ε) Sr.kW [] (dR Gn (.refuse ""))=true:=by kernel_rfl
end
theorem aar(a:Option Addr)(n c:Nat)(lim:kG)(N:Nat)(w:World)(hN:w.heap.size=N+2)(h0:w.heap[N]? = some (.cells #[.int .i64 lim.name,.int .i64 lim.iP] 24))(h1:w.heap[N+1]? = some (.cells #[.slice none 0 0,.int .i64 0,.int .i64 0,.int .i64 0] 30)):gB qp0 (Q0P w a n c lim (N+1)) Gn ⟨tP0 a n c lim N,[]⟩ w:=by
 have hc0:w.cell? ⟨N,0,none⟩=some (.int .i64 lim.name):=cell_of_row _ _ _ _ _ _ h0;have hc1:w.cell? ⟨N,1,none⟩=some (.int .i64 lim.iP):=cell_of_row _ _ _ _ _ _ h0;unfold tP0 pv;simp only[Gn,cP1,cP2,cP4,iW,Tryz.f16,Option.getD_some,gB];have HN:=ah hN;clear hN;have HB:=RP a n c lim w
 cases hl:Plain.eT lim with
 | true =>
  have HB:=ah (HB.mono (R':=fun e w'=>e=.returned (.tuple #[.pointer (some ⟨w.heap.size+2,0,none⟩),.bool true])/\w'=Fy w a n c lim) fun e w' h=>by
   rcases h with⟨_,h1,h2⟩|⟨h0,_⟩
   .exact⟨h1,h2⟩
   .rw[hl] at h0;cases h0)
  go_wp2_with (go_at_call 40;refine(HB.out).mono ?_;rintro e w2 ⟨rfl,rfl⟩)
  exact⟨hl,rfl,rfl,rfl,rfl,rfl,w.tape,w.drawn,rfl⟩
 | false =>
  have HB:=ah (HB.mono (R':=fun e w'=>e=.returned (.tuple #[.pointer none,.bool false])/\w'=rC w lim) fun e w' h=>by
   rcases h with⟨h0,_⟩|⟨_,h1,h2⟩
   .rw[hl] at h0;cases h0
   .exact⟨h1,h2⟩)
  have h2:(rC w lim).heap[N+1]? = some (.cells #[.slice none 0 0,.int .i64 0,.int .i64 0,.int .i64 0] 30):=by
   have hlt:=(fT.1 h1).1;exact(((Below.refl w.heap.size w).alloc (aY _) _:Below w.heap.size w (rC w lim)).block _ hlt).trans h1
  have hs4:(qp0.info? 30).map (·.size)=some (#[Value.slice none 0 0,.int .i64 78,.int .i64 0,.int .i64 0]:Array Value).size:=by kernel_rfl
  have Rs:∀ u∈(#[Value.slice none 0 0,.int .i64 78,.int .i64 0,.int .i64 0]:Array Value).toList,u.oneCell'=true:=by intro u hu;simp at hu;rcases hu with rfl|rfl|rfl <;> rfl
  go_wp2_with (first|(go_at_call 40;refine(HB.out).mono ?_;rintro e w2 ⟨rfl,rfl⟩)|(with_reducible refine wpList_store_row rfl 30 _ _ rfl (N+1) rfl #[.slice none 0 0,.int .i64 78,.int .i64 0,.int .i64 0] rfl #[.slice none 0 0,.int .i64 0,.int .i64 0,.int .i64 0] 30 h2 rfl hs4 Rs ?_))
  exact⟨hl,rfl,rfl,w.tape,w.drawn,rfl⟩
theorem ace{w:World}{a:Option Addr}{n c:Nat}{lim:kG}{rs:Nat}{e:Exit}{x:Act}{w':World}(h:Q0P w a n c lim rs e x w'):uE qp0 e:=by
 cases e <;> first|trivial|exact h.elim
theorem acV{w:World}{a:Option Addr}{n c:Nat}{lim:kG}{rs:Nat}{e:Exit}{x:Act}{w':World}(h:Q0P w a n c lim rs e x w')(τ:Nat->Question->Nat)(d:Nat):Q0P w a n c lim rs e x (tp w' τ d):=by
 cases e with
 | normal=>obtain⟨h1,h2,h3,h4,h5,h6,jH,d',rfl⟩:=h;exact⟨h1,h2,h3,h4,h5,h6,τ,d,rfl⟩
 | ret=>obtain⟨h1,h2,h3,jH,d',rfl⟩:=h;exact⟨h1,h2,h3,τ,d,rfl⟩
 | _=>exact h.elim
structure Vf(w:World)(R:Plain.Pz)(v:Value)(w':World):Prop where
 ex:∃ (x:Option Addr)(n cp:Nat)(Q:List EU),v=.agg #[.slice x n cp,.int .i64 R.code,.int .i64 R.off,.int .i64 R.held]/\Q.map (·.1)=R.ents/\w'.ownsRow w.heap.size 42 11 (.slice x n cp) n (Q.flatMap fG)/\∀ e∈Q,iw w' w.heap.size e
 bJ:fI w w'
section
variable {ε:Nat×Nat}{Φ:Goroutine->World->Prop}{b:Frame}{a:Act}{k:List Item}{cs:List Frame}{w:World}{ops:Array Oper}{i:Nat}{rest:List Nat}{o:Oper}
theorem xP{w w':World}(h:fI w w')(k:uF w):uF w':=uF.below (w:=tp w w'.tape w'.drawn) k h
theorem tH{w w':World}{ev:Value}(h:fI w w')(k:eO w ev):eO w' ev:=eO.below (w:=tp w w'.tape w'.drawn) k h
theorem xW{w w':World}(h:fI w w')(k:lV w):lV w':=lV.below (w:=tp w w'.tape w'.drawn) k h
theorem JX(ho:ops[i]? = some o)(hwt:Region.wanted o (yielded ops a.tmps)=true)(hk:b.kind≠.early){x y:Operand}{ats:Array TypeId}(hop:o.op=.call {callee:=.value (.func 16),args:=#[x,y],argTypes:=ats}){da:Option Addr}{dn dc:Nat}{lim:kG}{data:List UInt8}{ev:Value}(hx:a.eval x=.slice da dn dc)(hy:a.eval y=nV lim)(hdat:Bs w da dn dc data)(hdn:dn<=140737488351232)(hml:uF w)(her:eO w ev)(hpw:lV w){D:Nat->Prop}(hcl:bU qp0 (dW ε) (fun _=>False) D #[.slice da dn dc] w)(hn:∀ v w',Vf w (Plain.jA data lim) v w'->BW qp0 (G (b.at (a.put o.dst v) (.inRegion ops rest::k)) cs) w' Φ):BW qp0 (G (b.at a (.inRegion ops (i::rest)::k)) cs) w Φ:=by
 have hname:(Tryz.f16.name == "runtime.NumGoroutine")=false:=by simp only[Tryz.f16];decide
 have hbody:Tryz.f16.body=some iW:=by simp only[iW,Tryz.f16,Option.getD_some]
 have hts:#[Value.slice da dn dc,nV lim]++Array.replicate (Tryz.f16.ntmps-#[Value.slice da dn dc,nV lim].size) au=#[.slice da dn dc,nV lim,au,au,au,au,au,au,au,au,au,au,au,au,au,au,au,au,au,au,au,au,au,au,au,au,au,au,au,au,au,au,au,au,au,au]:=by kernel_rfl
 refine Cc.BW.enter ho hwt hk hop func16 hname hbody (vs:=#[.slice da dn dc,nV lim]) (by simp[hx,hy]) hts fun pf hpf=>?_
 rw[WT];refine BW.seq ?_;simp only[cP0,iW,Tryz.f16,Option.getD_some];unfold nV;apply Cc.BW.Jj (hP:=LG) (hk:=by decide) (hok:=by kernel_rfl) (Rr:=fun x y=>x=⟨tP0 da dn dc lim w.heap.size,[]⟩/\∃ τ d,y=tp ((w.alloc (.cells #[.int .i64 lim.name,.int .i64 lim.iP] 24)).alloc (.cells #[.slice none 0 0,.int .i64 0,.int .i64 0,.int .i64 0] 30)) τ d)
 .intro τ d;go_wp2
  exact⟨rfl,τ,d,rfl⟩
 .rintro x y τ d ⟨h1,jH,d',rfl⟩;exact⟨h1,τ,d,rfl⟩
 rintro a1 w1 ⟨rfl,τ,d,rfl⟩;have s0:bU qp0 (dW ε) (fun _=>False) D #[] w:=⟨hcl.off,hcl.gb,hcl.bnd,hcl.heap,.nil⟩;have hda:Sr.VR (Sr.mQ D) (dW ε) (.slice da dn dc) (.slice da dn dc):=hcl.tmps.2 0 _ _ rfl rfl;have s1:=nu s0 (ob:=.cells #[.int .i64 lim.name,.int .i64 lim.iP] 24) (.cells _ _ _ _ (dz (by intro u hu;simp at hu;rcases hu with rfl|rfl <;> exact .int _ _)));have s2:=nu s1 (ob:=.cells #[.slice none 0 0,.int .i64 0,.int .i64 0,.int .i64 0] 30) (.cells _ _ _ _ (dz (by intro u hu;simp at hu;rcases hu with rfl|rfl|rfl|rfl <;> first|exact .iq _ _|exact .int _ _)));have hsz0:(w.alloc (.cells #[.int .i64 lim.name,.int .i64 lim.iP] 24)).heap.size=w.heap.size+1:=by simp
 have hr0:((w.alloc (.cells #[.int .i64 lim.name,.int .i64 lim.iP] 24)).alloc (.cells #[.slice none 0 0,.int .i64 0,.int .i64 0,.int .i64 0] 30)).heap[w.heap.size]? = some (.cells #[.int .i64 lim.name,.int .i64 lim.iP] 24):=by
  rw[((Below.refl _ _).alloc (aY _) _:Below (w.alloc (.cells #[.int .i64 lim.name,.int .i64 lim.iP] 24)).heap.size _ _).block _ (by rw[hsz0];omega)];exact heap_alloc_new w _
 have hr1:((w.alloc (.cells #[.int .i64 lim.name,.int .i64 lim.iP] 24)).alloc (.cells #[.slice none 0 0,.int .i64 0,.int .i64 0,.int .i64 0] 30)).heap[w.heap.size+1]? = some (.cells #[.slice none 0 0,.int .i64 0,.int .i64 0,.int .i64 0] 30):=by
  have:=heap_alloc_new (w.alloc (.cells #[.int .i64 lim.name,.int .i64 lim.iP] 24)) (.cells #[.slice none 0 0,.int .i64 0,.int .i64 0,.int .i64 0] 30);rw[hsz0] at this;exact this
 have hsz1:((w.alloc (.cells #[.int .i64 lim.name,.int .i64 lim.iP] 24)).alloc (.cells #[.slice none 0 0,.int .i64 0,.int .i64 0,.int .i64 0] 30)).heap.size=w.heap.size+2:=by simp
 have hb1:fI w ((w.alloc (.cells #[.int .i64 lim.name,.int .i64 lim.iP] 24)).alloc (.cells #[.slice none 0 0,.int .i64 0,.int .i64 0,.int .i64 0] 30)):=.of (((Below.refl _ _).alloc (aY _) _).alloc (by rw[hsz0];omega) _);rw[hsz0] at s2;have s2:=s2.tp τ d;have hb1:=hb1.tp τ d;generalize hw1:tp ((w.alloc (.cells #[.int .i64 lim.name,.int .i64 lim.iP] 24)).alloc (.cells #[.slice none 0 0,.int .i64 0,.int .i64 0,.int .i64 0] 30)) τ d=w1;have hsz1:w1.heap.size=w.heap.size+2:=by rw[<-hw1];exact hsz1
 have hr0:w1.heap[w.heap.size]? = some (.cells #[.int .i64 lim.name,.int .i64 lim.iP] 24):=by rw[<-hw1];exact hr0
 have hr1:w1.heap[w.heap.size+1]? = some (.cells #[.slice none 0 0,.int .i64 0,.int .i64 0,.int .i64 0] 30):=by rw[<-hw1];exact hr1
 rw[hw1] at s2 hb1;clear hw1 s1 hsz0;have hD0:∀ b,D b->Sr.grown (Sr.grown D w.heap.size 1) (w.heap.size+1) 1 b:=fun b hb=>.inl (.inl hb)
 have hDp:Sr.grown (Sr.grown D w.heap.size 1) (w.heap.size+1) 1 w.heap.size:=.inl (.inr (by omega));have hDq:Sr.grown (Sr.grown D w.heap.size 1) (w.heap.size+1) 1 (w.heap.size+1):=.inr (by omega);generalize Sr.grown (Sr.grown D w.heap.size 1) (w.heap.size+1) 1=D2 at s2 hD0 hDp hDq;have AY:Sr.AV (Sr.mQ D2) (dW ε) (tP0 da dn dc lim w.heap.size) (tP0 da dn dc lim w.heap.size):=dz (by
  intro u hu;simp only[tP0,rD,xS,or_false] at hu;rcases hu with rfl|rfl|rfl|rfl|rfl|hu
  .exact hda.mono fun a b h=>⟨h.1,hD0 _ h.2⟩
  .unfold nV;exact .DC (dz (by intro u hu;simp at hu;rcases hu with rfl|rfl <;> exact .int _ _))
  .exact Sr.dG
  .exact .ptr _ _ ⟨⟨rfl,hDp⟩,rfl,rfl⟩
  .exact .ptr _ _ ⟨⟨rfl,hDq⟩,rfl,rfl⟩
  .have:u=au:=by simpa using hu
   subst this;exact Sr.dG)
 have s3:bU qp0 (dW ε) (fun _=>False) D2 (tP0 da dn dc lim w.heap.size) w1:=⟨s2.off,s2.gb,s2.bnd,s2.heap,AY⟩;refine Sr.YJ (b:=base 16) (a:=⟨tP0 da dn dc lim w.heap.size,[]⟩) (l:=Gn) (r:=.inl Ga) (k:=[]) (Q:=Q0P w1 da dn dc lim (w.heap.size+1)) Vn Ud WG trivial rfl rfl abl s3 (fun τ d=>aar da dn dc lim w.heap.size (tp w1 τ d) hsz1 hr0 hr1) (fun e a w h=>ace h) (fun e a w τ d h=>acV h τ d) fun e a' fr w2 D' hq hst hsup hat=>?_
 have hbw:∀ {w2:World},fI w1 w2->fI w w2:=fun h=>hb1.seq h
 cases e with
 | normal =>
  obtain⟨hlim,hdf,abY,h4,h5,h7,τ2,d2,rfl⟩:=hq;obtain⟨tm,df⟩:=a';have hdf:df=[]:=hdf;subst hdf;have hat:fr=(base 16).at ⟨tm,[]⟩ [.code Ga]:=hat;subst hat;have Y7:Below w1.heap.size w1 (Fy w1 da dn dc lim):=(((Below.refl _ _).alloc (aY _) _).alloc (by simp) _).alloc (by simp;omega) _;have hsb:(Fy w1 da dn dc lim).heap.size=w1.heap.size+3:=by unfold Fy rC;simp
  have hbb:fI w1 (tp (Fy w1 da dn dc lim) τ2 d2):=fI.tp (.of Y7) τ2 d2
  let C:Cn:=⟨w1,w1.heap.size+2,w1.heap.size+1,da,dn,dc,data,lim,ev⟩
  have hC:C.Ok:=⟨hb1.keeps.bs hdat,hdn,by show w1.heap.size<=w1.heap.size+2;omega,by show w1.heap.size<=w1.heap.size+1;omega,by show w1.heap.size+2≠w1.heap.size+1;omega,xP hb1 hml,tH hb1 her,xW hb1 hpw,hlim⟩;have hrow:(Fy w1 da dn dc lim).heap[w1.heap.size+2]? = some (.cells (VH C .zero 0 bW.zero 0 0) 85):=by
   have:=heap_alloc_new ((rC w1 lim).alloc (.map #[] 0)) (.cells (wk0 da dn dc lim (w1.heap.size+1)) 85);have e:((rC w1 lim).alloc (.map #[] 0)).heap.size=w1.heap.size+2:=by unfold rC;simp
   rw[e] at this;exact this
  have hmap:Gr.Mp zG qp0 5 (Fy w1 da dn dc lim) (w1.heap.size+1) (JM bW.zero) (gY bW.zero):=by
   have h0:=Gr.Mp.made zG (rC w1 lim) qp0 5;have e:(rC w1 lim).heap.size=w1.heap.size+1:=by unfold rC;simp
   rw[e] at h0;have hl0:gY bW.zero=fun _=>none:=by funext x;unfold gY;simp[bW.zero]
   have hs0:JM bW.zero=0:=rfl;rw[hl0,hs0];exact Gr.Mp.below h0 ((Below.refl _ _).alloc (aY _) _) h0.lt
  have hW:∀ τ,Wk (C.tp τ) .zero 0 bW.zero (tp (tp (Fy w1 da dn dc lim) τ2 d2) τ 0):=fun τ =>
   ⟨⟨Y7.os,rfl,Y7.output,Y7.size,Y7.block⟩,hrow,World.ownsRow_nil _ _ _ _,World.ownsRow_nil _ _ _ _,hmap,JQ.nil,JQ.nil,Plain.G8 hlim,M8 _⟩
  have hDw:D' (w1.heap.size+2):=by
   have h6:tm[5]? = some (pv (w1.heap.size+2)):=by
    have hlt:5<tm.size:=by rw[show tm.size=36 from abY];decide
    have h5:tm.getD 5 au=pv (w1.heap.size+2):=h5;rw[Az,mJ hlt] at h5;rw[mJ hlt];exact congrArg some h5
   have hv:Sr.VR (Sr.mQ D') (dW ε) (pv (w1.heap.size+2)) (pv (w1.heap.size+2)):=hst.tmps.2 5 _ _ h6 h6
   cases hv with
   | ptr _ _ h=>exact h.1.2
  refine BW.bind (ZC (ε:=ε) (C:=C) hC (D:=D') (rs:=w.heap.size+1) (pf::cs) abY h4 h5 h7 ⟨hst.off,hst.gb,hst.bnd,hst.heap,.nil⟩ hW hDw hbb) fun g w3 agG=>?_
  refine aao (adO agG hDw hC.wb) hr1 rfl hC.wb fun v w4 hps=>?_
  rw[hpf];refine hn v w4 ?_;have hsr:Plain.jA data lim=Plain.fC data lim (data.length+1) 0 bW.zero:=by unfold Plain.jA;rw[if_pos hlim]
  rw[hsr];obtain⟨⟨x',n',cp',Q,e1,e2,e3,e4⟩,p2,p3,p4,p5⟩:=hps;have hle:w.heap.size<=w1.heap.size:=by omega
  refine⟨⟨x',n',cp',Q,e1,e2,World.ownsRow.mono e3 hle,fun q hq=>World.ownsRow.mono (e4 q hq) hle⟩,p2.trans hb1.os,rfl,p3.trans hb1.output,tT hle p4,fun b hb=>?_⟩;have hb:b<w.heap.size:=hb;exact(p5 b (show b<w1.heap.size by omega) (by omega)).trans (hb1.block b hb)
 | ret =>
  obtain⟨hlim,hdf,h4,τ2,d2,rfl⟩:=hq;obtain⟨tm,df⟩:=a';have hdf:df=[]:=hdf;subst hdf;obtain⟨todo,rfl⟩:=hat;have hrow:((rC w1 lim).setRow (w.heap.size+1) #[.slice none 0 0,.int .i64 78,.int .i64 0,.int .i64 0]).heap[w.heap.size+1]? = some (.cells #[.slice none 0 0,.int .i64 78,.int .i64 0,.int .i64 0] 30):=by
   have hlt:w.heap.size+1<w1.heap.size:=by omega
   exact setRow_heap _ _ _ _ _ _ ((((Below.refl w1.heap.size w1).alloc (aY _) _:Below w1.heap.size w1 (rC w1 lim)).block _ hlt).trans hr1)
  refine Cc.BW.NC (v:=.agg #[.slice none 0 0,.int .i64 78,.int .i64 0,.int .i64 0]) rfl rfl func16 (fun d'=>results_cell_row rfl _ _ (w.heap.size+1) _ _ _ _ h4 hrow underlying30 rfl (by kernel_rfl)) ?_;rw[hpf];refine hn _ _ ?_;have hsr:Plain.jA data lim=Plain.Qy:=by unfold Plain.jA;rw[hlim];rfl
  rw[hsr];have hbl:Below w1.heap.size w1 (rC w1 lim):=(Below.refl _ _).alloc (aY _) _;refine⟨⟨none,0,0,[],rfl,rfl,World.ownsRow_nil _ _ _ _,fun e he=>by cases he⟩,hb1.os,rfl,hb1.output,?_,fun b hb=>?_⟩
  .show w.heap.size<=((rC w1 lim).setRow _ _).heap.size;rw[size_setRow];have:=hbl.size;omega
  .have hb:b<w.heap.size:=hb;show((rC w1 lim).setRow _ _).heap[b]? = _;rw[setRow_other _ _ _ _ (by omega),hbl.block b (by omega)];exact hb1.block b hb
 | _=>exact hq.elim
end
end St
end
section
open Go.Conc
open Cc (tp)
namespace Cc
section
variable {P:Program}{L:List FuncId}{w:World}{Φ:Goroutine->World->Prop}{cs:List Frame}
theorem BW.rest{f:FuncId}{fn:Func}{c:Code}{tmps:Array Value}{p:Frame}{Post:Value->World->Prop}(hP:fO P L)(hf:P.funcs[f]? = some fn)(hc:gU P L c=true)(hC:∀ τ d,c.wp P (bodyPost P fn fun e w'=>∃ v,e=.returned v/\Post v w') {tmps,defers:=[]} (tp w τ d))(hR:∀ v w' τ d,Post v w'->Post v (tp w' τ d))(hn:∀ v w',Post v w'->BW P (G (p.finish v) cs) w' Φ):BW P (G ((base f).at ⟨tmps,[]⟩ [.code c]) (p::cs)) w Φ:=by
 have ht:=DU (f:=f) hP hf hc hC hR;refine BW.tree (cs:=[]) (base:=p::cs) (fr:=F f tmps [.code c]) ht fun fr' w' hok hq=>?_
 obtain⟨g,tm,todo,rfl,hg⟩:=hok;obtain⟨gn,v,hgn,hres,hv,_⟩:=hq w'.drawn;have XK:P.funcs[g]? = some gn:=hgn;refine BW.NC (b:=R g tm todo) (a:=⟨tm,[]⟩) (todo:=todo) rfl rfl XK (fun d=>jX (f:=0) hres w'.tape d) (hn v w' hv)
theorem BW.adJ{g:FuncId}{tm:Array Value}{todo:List Item}{ro:Option Nat}{fn:Func}{c:Frame}{v:Value}(hf:P.funcs[g]? = some fn)(hr:∀ d,(results fn tm).run P (w.at d)=.ok v (w.at d))(h:BW P (G (c.finish v) cs) w Φ):BW P (G ⟨g,tm,todo,[],.returning,.normal,ro⟩ (c::cs)) w Φ:=by
 refine BW.step rfl fun d=>?_
 obtain⟨n,r,es',hres⟩:=dZ (kS (P:=P) fn tm) (w.at d) #[];have hlow:=qR hres.low;have h1:r=.ok v (w.at d):=by
  have:((results fn tm).runT P (w.at d) #[]).1=.ok v (w.at d):=by rw[Sem.runT_fst];exact hr d
  rw[hres.eq] at this;exact this
 subst h1;have hev:(results fn tm).events P (w.at d) #[]=es':=by unfold Sem.events;rw[hres.eq]
 refine⟨_,w.at d,seen P g es',?_,aY _,fM hlow,h.at d⟩;simp[G,stepG,unwind,doReturn,hf,hr d,hev,GStep.after]
end
end Cc
namespace Sr
open Cc (BW)
section
variable {P:Program}{L:FuncId->Bool}{K:Op->Bool}{S:Nat->Prop}{w:World}{Φ:Goroutine->World->Prop}{b:Frame}{a:Act}{k:List Item}{cs:List Frame}
theorem ZN(hK:vB P L K)(hL:∀ f,L f=true->fK P f)(hT:Tk P L K){ops:Array Oper}{i:Nat}{rest:List Nat}{o:Oper}{f:FuncId}{fn:Func}{c:Code}{args:Array Operand}{ats:Array TypeId}(ho:ops[i]? = some o)(hw:Region.wanted o (yielded ops a.tmps)=true)(hk:b.kind≠.early)(hop:o.op=.call {callee:=.value (.func f),args,argTypes:=ats})(hf:P.funcs[f]? = some fn)(hname:(fn.name == "runtime.NumGoroutine")=false)(hb:fn.body=some c){vs:Array Value}(ha:args.map a.eval=vs){t:Array Value}(ht:vs++Array.replicate (fn.ntmps-vs.size) au=t){D:Nat->Prop}(hs:bU P L S D t w)(hi:kg P L K [] c=true){Rr:Value->World->Prop}(hC:∀ τ d,Calls P f vs (tp w τ d) fun e w'=>∃ v,e=.returned v/\Rr v w')(hR:∀ v w' τ d,Rr v w'->Rr v (tp w' τ d))(hn:∀ v w',Rr v w'->BW P (G (b.at (a.put o.dst v) (.inRegion ops rest::k)) cs) w' Φ):BW P (G (b.at a (.inRegion ops (i::rest)::k)) cs) w Φ:=by
 refine Cc.BW.enter ho hw hk hop hf hname hb ha ht fun p hp=>?_
 have henter:Frame.enter P f vs .normal=(base f).at ⟨t,[]⟩ [.code c]:=by
  subst ht;simp[Frame.enter,Frame.at,hf,hb,base]
 have hit:Items P L K [] [.code c]:=by intro x hx;simp at hx;subst hx;exact hi
 have hself:Self P L K true S D (Frame.enter P f vs .normal) [] w:=by
  rw[henter];exact bU.self (a:=⟨t,[]⟩) hs rfl rfl hit
 have htr:=Pw hK hL hT hself hC (fun e w' h=>by obtain⟨v,rfl,_⟩:=h;exact trivial) (fun e w' τ d h=>by obtain⟨v,rfl,h⟩:=h;exact⟨v,rfl,hR v w' τ d h⟩);rw[<-henter];refine aaj (cs:=[]) (base:=p::cs) htr (by rw[henter];exact⟨hit,trivial⟩) fun fr' cs' w' hst=>?_
 obtain⟨⟨rfl,hfn,e,⟨v,rfl,hv⟩,_,hlv⟩,_⟩:=hst w'.tape w'.drawn;obtain⟨hm,hd,hkd,gn,hgn,hres⟩:=hlv;obtain⟨g,tm,todo,defers,mode,kind,ro⟩:=fr';simp only at hm hd hkd hgn hres;subst hm hd hkd;have hv:Rr v w':=hv;have hres:(results gn tm).run P w'=.ok v w':=hres;have hgn:P.funcs[g]? = some gn:=hgn;refine Cc.BW.adJ hgn (fun d=>Cc.jX (f:=0) hres w'.tape d) ?_;rw[hp];exact hn v w' hv
end
end Sr
end
end Go.Proofs.YtdbgldieilgnmaaGreatDoor
