/- K08 -/
import Derived.Test.YtdbgldieilgnmaaGreatDoorK07
import Derived.Great.BuildSlice
import Derived.Conc.CompanyDraw
import Derived.Test.YtdbgldieilgnmaaGreatDoorRows
import Derived.Deep.DeepHandedRow
import Derived.LaidSub
import Derived.Stop.LaidErr
import Derived.Conc.LeavingOf
import Derived.SevenTiedAt
set_option linter.all false
set_option maxHeartbeats 8000000
set_option maxRecDepth 100000
namespace Go.Proofs.YtdbgldieilgnmaaGreatDoor
open Go.Proofs.Tryz
open Go.Proofs.Tryz renaming prog → qp0
open ChangeShapes WideShapes ChangeAt RowKit
open Go renaming undef → au
section
open Go.Conc
open Cc (tp Ai BW EA c0)
namespace Sr
section
variable {P:Program}{L:FuncId->Bool}{K:Op->Bool}{S:Nat->Prop}{Φ:Frame->List Frame->World->Prop}{Ψ:Goroutine->World->Prop}{w:World}
theorem Ye{fr:Frame}{cs base:List Frame}(ht:GT P L K S Φ fr cs w){T:xH}(hT:OkT T)(hi:UQ P L K T fr cs)(h:∀ fr' cs' w',UQ P L K T fr' cs'->(∀ τ d,Φ fr' cs' (tp w' τ d))->BW P (G (uz T fr' cs') (yR T cs'++base)) w' Ψ):BW P (G (uz T fr cs) (yR T cs++base)) w Ψ:=by
 induction ht with
 | stop hq=>exact h _ _ _ hi hq
 | @step fr cs w hn hf fr' cs' w' hst ht ih =>
  refine QV rfl fun d=>?_
  have h1:=hst w.tape d;have h2:=h1.eqT T base true w.tape d hT hi (fun i _=>rfl);obtain⟨hi',es,he,hev⟩:=h2;have e:tp (w' w.tape d) w.tape (d+((w' w.tape d).drawn-(tp w w.tape d).drawn))=w' w.tape d:=by
   have hd':d<=(w' w.tape d).drawn:=h1.drawn;have ht':(w' w.tape d).tape=w.tape:=h1.tape;generalize w' w.tape d=W at hd' ht';show({W with tape:=w.tape,drawn:=d+(W.drawn-d)}:World)=_;rw[show d+(W.drawn-d)=W.drawn by omega,<-ht']
  rw[e] at he;exact⟨_,_,es,he,h1.size,fun e he=>XY (hev e he),ih w.tape d hi'⟩
theorem YJ(hK:vB P L K)(hL:∀ f,L f=true->fK P f)(hT:Tk P L K){D:Nat->Prop}{b:Frame}{a:Act}{l:List Code}{r:Code ⊕ Nat}{k:List Item}{Q:Exit->Act->World->Prop}(hrl:okE r l)(hb:b.kind=.normal)(ha:a.defers=[])(hc:kg P L K [] (dR l (.refuse ""))=true){B:List Frame}(hs:bU P L S D a.tmps w)(hC:∀ τ d,gB P Q l a (tp w τ d))(hE:∀ e a w,Q e a w->uE P e)(hQ:∀ e a w τ d,Q e a w->Q e a (tp w τ d))(hn:∀ e a' fr w' D',Q e a' w'->bU P L S D' a'.tmps w'->(∀ a,D a->D' a)->oN b r k e a' fr->BW P (G fr B) w' Ψ):BW P (G (b.at a (fQ r l::k)) B) w Ψ:=by
 have hit:Items P L K [] [.code (dR l (.refuse ""))]:=by intro x hx;simp at hx;subst hx;exact hc
 have htr:=BP hK hL hT (hs.self hb ha hit) hC hE hQ;have hT':OkT ((([],some (r,k)),id,[]):xH):=.inl rfl;have key:=Ye (T:=(([],some (r,k)),id,[])) (base:=B) (Ψ:=Ψ) htr hT' (by
  refine⟨?_,[],l,hrl,rfl⟩;intro x hx;have:x=.code (dR l (.refuse "")):=by simpa[Frame.at] using hx
  subst this;exact hc) fun fr cs w' hi hst=>?_
 .have e:uz ((([],some (r,k)),id,[]):xH) (b.at a [.code (dR l (.refuse ""))]) []=b.at a (fQ r l::k):=by
   show iR _ _=_;have:=lQ (r,k) [] l;simp only[yG] at this;obtain⟨tm,df⟩:=a;have ha:df=[]:=ha;subst ha;unfold iR Frame.at
   simp only[this,yG];rfl
  rw[e] at key;exact key
 .obtain⟨⟨rfl,e,a',hq,hat⟩,D',hs',hsup⟩:=hst w'.tape w'.drawn;have hq:Q e a' w':=hq;obtain⟨hst',hd⟩:=sZ hs';have sQ:bU P L S D' fr.tmps w':=hst';obtain⟨tm,df⟩:=a';show BW P (G (iR _ fr) B) w' Ψ
  cases e with
  | normal =>
   cases hat
   have hd:df=[]:=hd;subst hd;refine hn .normal _ _ w' D' hq sQ hsup ?_;have:o8 (some (r,k)) [fQ (.inl (.refuse "")) []]=fQ r []::k:=lQ (r,k) [] [];unfold oN iR Frame.at
   simp only[this,yG];rfl
  | ret =>
   obtain⟨todo,rfl⟩:=hat;have hd:df=[]:=hd;subst hd;refine hn .ret _ _ w' D' hq sQ hsup ⟨o8 (some (r,k)) todo,?_⟩;unfold iR Frame.at
   simp only[yG];rfl
  | panic ch =>
   obtain⟨todo,rfl⟩:=hat;have hd:df=[]:=hd;subst hd;refine hn (.panic ch) _ _ w' D' hq sQ hsup ⟨o8 (some (r,k)) todo,?_⟩;unfold iR Frame.at
   simp only[yG];rfl
  | _=>exact hat.elim
end
end Sr
end
section
open Go.Conc
namespace Sr
section
variable {R:Nat->Nat->Prop}{L L':FuncId->Bool}
theorem VR.up(hL:∀ f,L f=true->L' f=true){v w:Value}(h:VR R L v w):VR R L' v w:=by
 induction h with
 | bool b=>exact .bool b
 | int k n=>exact .int k n
 | string s=>exact .string s
 | gV=>exact .gV
 | ptr a b h=>exact .ptr a b h
 | iq n c=>exact .iq n c
 | slice a b n c h=>exact .slice a b n c h
 | fV=>exact .fV
 | map r s h=>exact .map r s h
 | chan r=>exact .chan r
 | func f hf x c y d hx hxv hc hcv ih1 ih2=>exact .func f (hL _ hf) x c y d hx ih1 hc ih2
 | nilFunc=>exact .nilFunc
 | iface t v w h ih=>exact .iface t v w ih
 | tJ t a ht ha=>exact .tJ t a (hL _ ht) (hL _ ha)
 | nilIface=>exact .nilIface
 | agg x y hx hv ih=>exact .agg x y hx ih
 | tuple x y hx hv ih=>exact .tuple x y hx ih
theorem AV.up(hL:∀ f,L f=true->L' f=true){x y:Array Value}(h:AV R L x y):AV R L' x y:=⟨h.1,fun i v w hv hw=>(h.2 i v w hv hw).up hL⟩
theorem OR.up(hL:∀ f,L f=true->L' f=true){x y:Obj}(h:OR R L x y):OR R L' x y:=by
 cases h with
 | cells x y e f h=>exact .cells x y e f (h.up hL)
 | map x y c h=>exact .map x y c ⟨h.1,fun i v w hv hw=>⟨(h.2 i v w hv hw).key.up hL,(h.2 i v w hv hw).val.up hL,(h.2 i v w hv hw).born⟩⟩
 | sit s p=>exact .sit s p
 | fV a s t=>exact .fV a s t
 | number a b l h=>exact .number a b l h
 | M7 m m' h a s t=>exact .M7 m m' h a s t
theorem OO.up(hL:∀ f,L f=true->L' f=true){x y:Option Obj}(h:OO R L x y):OO R L' x y:=by
 cases h with
 | none=>exact .none
 | some h=>exact .some (h.up hL)
end
theorem JC(e:Nat×Nat)(b:Nat)(h:iM e (2*b+1000000001)=true):dW e (2*b+1000000001)=true:=by
 unfold iM at h;simp only[Yb,beq_iff_eq] at h;unfold dW;simp only[Yb,beq_iff_eq];rcases h with(h|h)|h
 .refine .inl (.inl ?_);have h:(2*b+1000000001)∈LO:=by simpa using h
  rcases UY.1 h with h|h
  .exfalso;simp only[LU,rD,xS,or_false] at h;rcases h with h|h|h|h <;> (have h:2*b+1000000001=_:=h;omega)
  .simpa using h
 .exact .inl (.inr h)
 .exact .inr h
theorem HR.lift{R:Nat->Nat->Prop}{e:Nat×Nat}{h h':Array Obj}(k:HR R (dW e) h h'):HR R (iM e) h h' :=⟨fun b b' hb=>(k.rel b b' hb).up (Rc e),fun b hb=>k.opq b (JC e b hb),fun a b hab=>by
  have:=k.Af a b hab;constructor
  .cases hx:iM e (2*a+1000000001) with
   | false=>rfl
   | true=>rw[JC e a hx] at this;cases this.1
  .cases hx:iM e (2*b+1000000001) with
   | false=>rfl
   | true=>rw[JC e b hx] at this;cases this.2⟩
theorem HR.oq{R:Nat->Nat->Prop}{L:FuncId->Bool}{h h':Array Obj}(k:HR R L h h')(b:Nat)(hb:L (2*b+1000000001)=true):b<h'.size:=by
 obtain⟨c,e,_,h2⟩:=k.opq b hb;exact(fT.1 h2).1
theorem aay{P:Program}{R:Nat->Nat->Prop}{L:FuncId->Bool}{K:Op->Bool}{d:Deferred}{n:Nat}(hd:DR R L d d):SL P R L K false O0 [] [] {(default:Frame) with fn:=n,defers:=[d],mode:=.panicking [goexitEntry]} [] {(default:Frame) with fn:=n,defers:=[d],mode:=.panicking [goexitEntry]} []:=by
 refine .bot ⟨rfl,⟨#[],.nil,rfl⟩,rfl,?_,⟨[d],rfl,.cons hd .nil⟩,?_,rfl,.inl rfl,.inl rfl,rfl,rfl⟩ rfl (fun z=>by cases z) fun _=>rfl
 .intro x hx;cases hx
 .exact .panicking (.cons dG rfl rfl .nil)
end Sr
end
section
open Go.Conc
open Cc (tp)
namespace Plain
theorem abu{α:Type}(o n m:Nat)(e:α)(l:List α)(h:o+512<=n)(k:n+512*l.length<=m):o+512*(e::l).length<=m:=by rw[oH];omega
theorem abd(d:List UInt8)(lim:kG):∀ o s,o<=d.length->o+512*(sgo d lim o s).ents.length<=d.length :=Jp (C:=fun o s r=>o+512*r.ents.length<=d.length) (fun o s c off ho _=>by simpa using ho) (fun o s s' n _ _ h _ k=>by omega) (fun o s e s' n _ _ h _ k=>by
  exact abu _ _ _ _ _ h k)
end Plain
namespace Cc
section
variable {P:Program}{L:List FuncId}{w:World}{Φ:Goroutine->World->Prop}{b:Frame}{a:Act}{k:List Item}{cs:List Frame}
theorem BW.enter{ops:Array Oper}{i:Nat}{rest:List Nat}{o:Oper}{f:FuncId}{fn:Func}{c:Code}{args:Array Operand}{ats:Array TypeId}(ho:ops[i]? = some o)(hw:Region.wanted o (yielded ops a.tmps)=true)(hk:b.kind≠.early)(hop:o.op=.call {callee:=.value (.func f),args,argTypes:=ats})(hf:P.funcs[f]? = some fn)(hname:(fn.name == "runtime.NumGoroutine")=false)(hb:fn.body=some c){vs:Array Value}(ha:args.map a.eval=vs){t:Array Value}(ht:vs++Array.replicate (fn.ntmps-vs.size) au=t)(hn:∀ p:Frame,(∀ v,p.finish v=b.at (a.put o.dst v) (.inRegion ops rest::k))->BW P (G ((base f).at ⟨t,[]⟩ [.code c]) (p::cs)) w Φ):BW P (G (b.at a (.inRegion ops (i::rest)::k)) cs) w Φ:=by
 subst ha;subst ht;refine BW.ctl rfl (fun w=>?_) (hn (b.at a (.inRegion ops (i::rest)::k)) fun v=>by rw[Frame.finish_at,ho];rfl);have henter:Frame.enter P f (args.map a.eval) .normal=(base f).at {tmps:=args.map a.eval++Array.replicate (fn.ntmps-(args.map a.eval).size) au,defers:=[]} [.code c]:=by
  simp[Frame.enter,Frame.at,hf,hb,base]
 have:=goes_call (main:=true) (w:=w) (K:=fun g' w' es=>g'=G (Frame.enter P f (args.map a.eval) .normal) (b.at a (.inRegion ops (i::rest)::k)::cs)/\w'=w/\es=#[]) (cs:=cs) (k:=k) (rest:=rest) ho hw hk hop hf hname hb ⟨by rw[henter],rfl,rfl⟩;obtain⟨g',w',es,h1,rfl,rfl,rfl⟩:=goes_elim this;rw[<-henter];exact h1
theorem BW.Jj{id:Nat}{l:List Oper}{Rr:Act->World->Prop}(hP:fO P L)(hk:b.kind≠.early)(hok:(l.all fun o=>bT P [] o.op)=true)(hw:∀ τ d,wpList P l.toArray (fun e x y=>e=.normal/\Rr x y) l a (tp w τ d))(hR:∀ a w τ d,Rr a w->Rr a (tp w τ d))(hn:∀ a' w',Rr a' w'->BW P (G (b.at a' k) cs) w' Φ):BW P (G (b.at a (.code (.region id l.toArray false)::k)) cs) w Φ:=by
 refine BW.region ?_;have:=BW.ops (ops:=l.toArray) (rest:=[]) (k:=k) (cs:=cs) (Φ:=Φ) (a:=a) (w:=w) l 0 hk hP (fun j hj=>by simp) hok hw hR (fun a' w' h=>BW.rend (hn a' w' h));simpa using this
end
end Cc
namespace Sr
section
variable {P:Program}{S X:Nat->Prop}{Stop:(Nat->Prop)->Goroutine->World->Prop}{b:Frame}{a:Act}{k:List Item}{cs:List Frame}{w:World}{ops:Array Oper}{i:Nat}{rest:List Nat}{o:Oper}{n:Nat}
theorem Lh(ho:ops[i]? = some o)(hw:Region.wanted o (yielded ops a.tmps)=true)(hk:b.kind≠.early){x:Operand}{t:TypeId}(hop:o.op=.load t x)(g:Nat)(hx:a.eval x=.pointer (some ⟨g,0,none⟩))(ht:∃ U,P.underlying t=some U/\(match U with|.struct _|.array _ _=>False|_=>True)){v:Value}(hc:w.cell? ⟨g,0,none⟩=some v)(hS:S g)(hn:MG P S Stop n X (G (b.at (a.put o.dst v) (.inRegion ops rest::k)) cs) w):MG P S Stop (n+1) X (G (b.at a (.inRegion ops (i::rest)::k)) cs) w:=by
 refine .inr ⟨rfl,fun ω θ=>?_⟩;have hc₁:ω.cell? ⟨g,0,none⟩=some v:=by rw[World.cell?_of_block (w:=w) (θ.sh g hS)];exact hc
 obtain⟨hr,he⟩:=St.jR (P:=P) (a:=a) (o:=o) (w:=ω) hop hx ht hc₁;refine⟨_,ω,listed P b.fn a o ω,X,stepG_value ho hw hk hr,⟨aY _,rfl,rfl,rfl,fun _ _ _=>rfl,fun _ h=>h,fun _ h=>.inl h,fun e hem=>?_⟩,hn.rely θ⟩;have:=mem_listed hem;rw[he] at this;simp at this;subst this;exact .inr ⟨.inl ⟨⟨g,0,none⟩,g,rfl,hS,World.block_lt_of_cell? (w:=ω) (a:=⟨g,0,none⟩) hc₁,rfl⟩,rfl⟩
end
end Sr
namespace St
open Sr (MG RM gZ AtRecv Rel dh oV tN wo wT Bp tZ IL wm Lh bU)
open Cc (BW fI)
open Sr (dW iM)
theorem LG:Cc.fO qp0 []:=Cc.F7 (by kernel_rfl) (Cc.zF _)
noncomputable def Xb:Code:=Tryz.f41.body.getD .skip
noncomputable def Ga:Code:=match iW with|.seq _ (.seq _ (.seq _ (.seq _ r)))=>r|_=>.skip
section
variable {P:Program}{a:Act}{o:Oper}
theorem Qx{x:Operand}{f:FuncId}{caps:Array Value}(hop:o.op=.go {callee:=.value x,args:=#[],argTypes:=#[]})(hx:a.eval x=.func (.func f) #[] caps)(w:World):(execOp a.eval o).run P w=.ok (.spawn {target:=.fn (.func f) caps,args:=#[]}) w/\(execOp a.eval o).events P w #[]=#[]:=by
 constructor
 .simp[execOp,hop,resolve,hx,Result.andThen,Deferred.ofValue]
 .simp[execOp,hop,resolve,hx,Result.evThen,Deferred.ofValue]
end
section
variable {ε:Nat×Nat}
theorem o7{S S' D:Nat->Prop}{t:Array Value}{w w':World}(h:bU qp0 (dW ε) S D t w)(hb:fI w w')(hS:∀ b,S' b->¬ D b/\b<w'.heap.size):bU qp0 (dW ε) S' D t w' :=⟨hS,h.gb,fun a ha=>CW (h.bnd a ha) hb.size,⟨fun a b hab=>by
  rw[hb.block a (h.bnd a hab.2),hb.block b (hab.1 ▸ h.bnd a hab.2)];exact h.heap.rel a b hab,fun b Zh=>by
  obtain⟨c,e,h1,h2⟩:=h.heap.opq b Zh;refine⟨c,e,?_,?_⟩ <;> (rw[hb.block b (fT.1 h1).1];exact h1),h.heap.Af⟩,h.tmps⟩
end
noncomputable def adC(wb rs:Nat)(f:Nat->Value)(v:Value):Frame :=bP.at ⟨#[f 0,f 1,f 2,f 3,pv rs,pv wb,f 6,.slice none 0 0,f 8,f 9,f 10,f 11,f 12,f 13,f 14,f 15,f 16,f 17,pv wb,v,f 20,f 21,f 22,f 23,f 24,f 25,f 26,f 27,f 28,f 29,f 30,f 31,f 32,f 33,f 34,f 35],[]⟩ [.inRegion VP [],.code (.block 0 (.loop LP)),.code YP]
structure ClP(ε:Nat×Nat)(C:Cn)(rs:Nat)(D0:Nat->Prop)(cs:List Frame)(g:Goroutine)(w:World):Prop where
 ex:∃ (n0 lb c:Nat)(wF:World)(D:Nat->Prop),Sr.aeu qp0 (iM ε) (fun b=>b=lb) c wF D (ZG n0 C.wb rs c cs) (abg C (Plain.fC C.data C.lim (C.data.length+1) 0 bW.zero)) g w /\
  fI C.w0 wF/\wF.heap.size=n0/\C.wb<n0/\C.w0.heap.size<=c/\(∀ b,D0 b->D b)/\(∀ b,D b->b<n0)/\Sr.HR (Sr.mQ D) (iM ε) wF.heap wF.heap
theorem ZC{ε:Nat×Nat}{C:Cn}(hC:C.Ok){D:Nat->Prop}{w:World}{t:Array Value}{rs:Nat}(cs:List Frame)(ht:t.size=36)(h4:t.getD 4 au=pv rs)(h5:t.getD 5 au=pv C.wb)(h7:t.getD 7 au=.slice none 0 0)(hcl:bU qp0 (dW ε) (fun _=>False) D #[] w)(hw:∀ τ,Wk (C.tp τ) .zero 0 bW.zero (tp w τ 0))(hD:D C.wb)(hB:fI C.w0 w):BW qp0 (G (bP.at ⟨t,[]⟩ [.code Ga]) cs) w (ClP ε C rs D cs):=by
 have e:=Vw ht;rw[h4,h5,h7] at e;rw[e];clear e h4 h5 h7 ht;simp only[Ga,iW,Tryz.f16,Option.getD_some];refine BW.seq ?_;refine BW.seq ?_;refine BW.region ?_;simp only[rJ,oH,List.length_nil,Nat.reduceAdd,lU,List.range'];refine BW.move rfl rfl (by decide) (.inl rfl) ?_;walk_nrm;have hname:(Tryz.f41.name == "runtime.NumGoroutine")=false:=by simp only[Tryz.f41];decide
 have hbody:Tryz.f41.body=some Xb:=by simp only[Xb,Tryz.f41,Option.getD_some]
 have hts:#[pv C.wb,.chan none]++Array.replicate (Tryz.f41.ntmps-#[pv C.wb,Value.chan none].size) au=#[pv C.wb,.chan none,au,au,au,au,au,au,au]:=by kernel_rfl
 refine Cc.BW.enter rfl rfl (by decide) rfl func41 hname hbody (vs:=#[pv C.wb,.chan none]) (by simp[Act.eval]) hts fun pf hpf=>?_
 have hpf:∀ v,pf.finish v=adC C.wb rs (fun i=>t[i]?.getD au) v:=by
  intro v;rw[hpf v];simp only[adC,VP,LP,YP,iW,Tryz.f16,Option.getD_some];rfl
 simp only[Xb,Tryz.f41,Option.getD_some];refine BW.seq ?_;apply Cc.BW.Jj (hP:=LG) (hk:=by decide) (hok:=by kernel_rfl) (Rr:=fun x y=>x=⟨#[pv C.wb,.chan none,pv w.heap.size,pv (w.heap.size+1),.chan none,au,au,au,au],[]⟩/\∃ τ d,y=tp ((w.alloc (.cells #[pv C.wb] 77)).alloc (.cells #[.chan none] 141)) τ d)
 .intro τ d;go_wp2
  exact⟨⟨rfl,rfl⟩,τ,d,rfl⟩
 .rintro x y τ d ⟨h1,jH,d',rfl⟩;exact⟨h1,τ,d,rfl⟩
 rintro a1 w1 ⟨rfl,τ,d,rfl⟩;have H6:∀ b,D b->Sr.VR (Sr.mQ (Sr.grown D w.heap.size 1)) (dW ε) (pv b) (pv b):=fun b hb=>.ptr _ _ ⟨⟨rfl,.inl hb⟩,rfl,rfl⟩
 have s1:=nu hcl (ob:=.cells #[pv C.wb] 77) (.cells _ _ _ _ (dz (by intro u hu;simp at hu;subst hu;exact H6 _ hD)));have s2:=nu s1 (ob:=.cells #[.chan none] 141) (.cells _ _ _ _ (dz (by intro u hu;simp at hu;subst hu;exact .chan _)));have hsz0:(w.alloc (.cells #[pv C.wb] 77)).heap.size=w.heap.size+1:=by simp
 have hsz1:((w.alloc (.cells #[pv C.wb] 77)).alloc (.cells #[.chan none] 141)).heap.size=w.heap.size+2:=by simp
 have hc1:((w.alloc (.cells #[pv C.wb] 77)).alloc (.cells #[.chan none] 141)).cell? ⟨w.heap.size,0,none⟩=some (pv C.wb):=by
  rw[((Below.refl _ _).alloc (aY _) _:Below (w.alloc (.cells #[pv C.wb] 77)).heap.size _ _).cell (show w.heap.size<_ by rw[hsz0];omega)];exact cell_of_row _ _ _ _ _ _ (heap_alloc_new w _)
 have hc2:((w.alloc (.cells #[pv C.wb] 77)).alloc (.cells #[.chan none] 141)).cell? ⟨w.heap.size+1,0,none⟩=some (.chan none):=by
  have:=heap_alloc_new (w.alloc (.cells #[pv C.wb] 77)) (.cells #[.chan none] 141);rw[hsz0] at this;exact cell_of_row _ _ _ _ _ _ this
 have hb1:fI w ((w.alloc (.cells #[pv C.wb] 77)).alloc (.cells #[.chan none] 141)):=.of (((Below.refl _ _).alloc (aY _) _).alloc (by rw[hsz0];omega) _);rw[hsz0] at s2;have s2:=s2.tp τ d;have hb1:=hb1.tp τ d;generalize hw1:tp ((w.alloc (.cells #[pv C.wb] 77)).alloc (.cells #[.chan none] 141)) τ d=w1;have hsz1:w1.heap.size=w.heap.size+2:=by rw[<-hw1];exact hsz1
 have hc1:w1.cell? ⟨w.heap.size,0,none⟩=some (pv C.wb):=by rw[<-hw1];exact hc1
 have hc2:w1.cell? ⟨w.heap.size+1,0,none⟩=some (.chan none):=by rw[<-hw1];exact hc2
 rw[hw1] at s2 hb1;clear hw1 s1 hsz0 H6;have hD2:∀ b,D b->Sr.grown (Sr.grown D w.heap.size 1) (w.heap.size+1) 1 b:=fun b hb=>.inl (.inl hb)
 have hDp:Sr.grown (Sr.grown D w.heap.size 1) (w.heap.size+1) 1 w.heap.size:=.inl (.inr (by omega));have hDq:Sr.grown (Sr.grown D w.heap.size 1) (w.heap.size+1) 1 (w.heap.size+1):=.inr (by omega);generalize Sr.grown (Sr.grown D w.heap.size 1) (w.heap.size+1) 1=D2 at s2 hD2 hDp hDq;refine BW.seq ?_;refine BW.region ?_;simp only[rJ,oH,List.length_nil,Nat.reduceAdd,lU,List.range'];obtain⟨inf,agd,hbytes⟩:∃ inf,qp0.info? 42=some inf/\inf.bytes=136:=by
  obtain⟨inf,h1,h2⟩:=zA.1 FW;simp only[MV] at h2;exact⟨inf,h1,h2.2.2⟩
 refine Cc.BW.makeChan rfl rfl (by decide) rfl underlying142 agd 0 rfl (by decide) (by rw[hbytes];decide) ?_;walk_nrm;have hcc:(w1.alloc (.chan 0 #[] false 0 0 false)).heap[w1.heap.size]? = some (.chan 0 #[] false 0 0 false):=heap_alloc_new w1 _;have hb2:fI w1 (w1.alloc (.chan 0 #[] false 0 0 false)):=.of ((Below.refl _ _).alloc (aY _) _);have hsz2:(w1.alloc (.chan 0 #[] false 0 0 false)).heap.size=w1.heap.size+1:=by simp
 generalize w1.alloc (.chan 0 #[] false 0 0 false)=w2 at hcc hb2 hsz2 ⊢;have HS1:=ah hsz1;have HS2:=ah hsz2;clear hsz1 hsz2;refine Cc.BW.TV (pv w2.heap.size) (Rw:=fun y=>fI w2 y/\y.heap[w2.heap.size]? = some (.cells #[.chan none] 142)/\y.heap.size=w2.heap.size+1) LG rfl (by decide) rfl (fun τ d=>?_) (fun w' τ d hr=>⟨hr.1.tp τ d,hr.2.1,hr.2.2⟩) fun w3 hr3=>?_
 .go_wp2
  exact⟨rfl,.pR (τ:=τ) (d:=d) ((Below.refl _ (tp w2 τ d)).alloc (aY _) _),heap_alloc_new _ _,by first|rfl|simp⟩
 obtain⟨hb3,hl3,aed⟩:=hr3;walk_nrm;refine Cc.BW.TV au (Rw:=fun y=>fI w2 y/\y.heap[w2.heap.size]? = some (.cells #[.chan (some w1.heap.size)] 142)/\y.heap.size=w2.heap.size+1) LG rfl (by decide) rfl (fun τ d=>?_) (fun w' τ d hr=>⟨hr.1.tp τ d,hr.2.1,hr.2.2⟩) fun w4 hr4=>?_
 .have KY:=ah aed;clear aed;have hg:=Gr.aO (w:=tp w3 τ d) hl3 (j:=0) (.chan (some w1.heap.size));refine wpList_store_one rfl _ _ _ rfl w2.heap.size rfl rfl 142 _ hl3 (by kernel_rfl) ⟨rfl,rfl,?_,setRow_heap _ _ _ _ _ _ hl3,?_⟩
  .exact .pR (τ:=τ) (d:=d) ⟨hb3.os,rfl,hb3.output,by simp;exact hb3.size,fun k hk=>(setRow_other _ _ _ _ (Nat.ne_of_lt hk)).trans (hb3.block k hk)⟩
  .simp;exact KY.out
 obtain⟨hb4,hl4,Zd⟩:=hr4;clear hb3 hl3 aed;walk_nrm;refine BW.rend ?_;refine BW.seq ?_;refine BW.region ?_;simp only[rJ,oH,List.length_nil,Nat.reduceAdd,lU,List.range'];refine BW.jU rfl rfl (by decide) _ (fun ω=>Jk (vs:=#[pv w2.heap.size,pv w.heap.size,pv (w.heap.size+1)]) rfl (by simp[Act.eval]) ω) ?_;walk_nrm;have hcs:w4.heap.size=w1.heap.size+2:=by rw[Zd,HS2.out]
 have hc4:w4.heap[w1.heap.size]? = some (.chan 0 #[] false 0 0 false):=by rw[hb4.block _ (by rw[HS2.out];omega)];exact hcc
 have XW:fI w1 w4:=hb2.seq hb4;have UA:fI w w4:=hb1.seq XW;have hlc:w4.cell? ⟨w2.heap.size,0,none⟩=some (.chan (some w1.heap.size)):=cell_of_row _ _ _ _ _ _ hl4;have hlD:¬ D2 w2.heap.size:=fun h=>by have:=s2.bnd _ h;have:=HS2.out;omega
 have s4:bU qp0 (dW ε) (fun b=>b=w2.heap.size) D2 #[] w4:=o7 s2 XW fun b hb=>by subst hb;exact⟨hlD,by rw[Zd];omega⟩
 have s4':bU qp0 (dW ε) (fun _=>False) D2 #[] w4:=o7 s2 XW fun b hb=>hb.elim
 have hDn:∀ a b,Sr.mQ D2 a b->Sr.mQ (fun b=>D2 b\/b=w2.heap.size) a b:=fun a b h=>⟨h.1,.inl h.2⟩
 have hheap:Sr.HR (Sr.mQ (fun b=>D2 b\/b=w2.heap.size)) (iM ε) w4.heap w4.heap:=by
  refine Sr.HR.lift ⟨fun a b hab=>?_,s4.heap.opq,fun a b hab=>?_⟩
  .obtain⟨rfl,hab⟩:=hab;rcases hab with hab|rfl
   .exact(s4.heap.rel a a ⟨rfl,hab⟩).mono hDn
   .rw[hl4];exact .some (.cells _ _ _ _ (dz (by intro u hu;simp at hu;subst hu;exact .chan _)))
  .obtain⟨rfl,hab⟩:=hab;rcases hab with hab|rfl
   .exact s4.heap.Af a a ⟨rfl,hab⟩
   .have hf:(dW ε) (2*w2.heap.size+1000000001)=false:=by
     cases hx:(dW ε) (2*w2.heap.size+1000000001) with
     | false=>rfl
     | true=>have:=s2.heap.oq _ hx;have:=HS2.out;omega
    exact⟨hf,hf⟩
 have hgb:Sr.GB qp0 (Sr.mQ (fun b=>D2 b\/b=w2.heap.size)):=by
  refine⟨⟨fun a a' b h h'=>h.1.trans h'.1.symm,fun a b b' h h'=>h.1.symm.trans h'.1⟩,fun g hg b h=>h.1.symm,fun g hg a h=>h.1,fun g hg=>⟨rfl,.inl (s4.gb.gl g hg).2⟩⟩
 have hws:∀ d',Sr.WS qp0 (iM ε) (fun _=>true) (fun b=>b=w2.heap.size) w1.heap.size Wu (abg C (Plain.fC C.data C.lim (C.data.length+1) 0 bW.zero)) (Plain.fC C.data C.lim (C.data.length+1) 0 bW.zero).ents.length [] (Gh (Gf w2.heap.size w.heap.size (w.heap.size+1))) [] (w4.at d'):=fun d'=>by
  have hlt:=hw w4.tape;have acE:C.wb<w.heap.size:=hcl.bnd _ hD;have agW:C.mb<w.heap.size:=hlt.long.lt;have:=HS1.out;have:=HS2.out;refine UE (A:=.zero) hC (w4.at d') hlc (by rw[<-hc1];exact World.cell?_of_block (XW.block _ (show w.heap.size<_ by rw[HS1.out];omega))) (by rw[<-hc2];exact World.cell?_of_block (XW.block _ (show w.heap.size+1<_ by rw[HS1.out];omega))) (by omega) (by omega) (by omega) (by omega) (hlt.below ⟨UA.os,rfl,UA.output,UA.size,UA.block⟩) (s4.tp w4.tape d') (hD2 _ hD) Wu.en
 refine(Sr.Z7 (K:=fun _=>true) (D:=fun b=>D2 b\/b=w2.heap.size) (S:=fun b=>b=w2.heap.size) (c:=w1.heap.size) (w0:=w4) (z:=.agg fZ) (Sh:=Wu) (Fin:=ZG w4.heap.size C.wb rs w1.heap.size cs) (fU:=abg C (Plain.fC C.data C.lim (C.data.length+1) 0 bW.zero)) (m:=(Plain.fC C.data C.lim (C.data.length+1) 0 bW.zero).ents.length) rfl (Sr.ae2 ε) (Sr.ac4 ε) Wu.image hgb ?_ ?_ ?_ (fun b hb=>.inr hb) (Sr.HR.oq hheap) hheap hc4 fun d'=>?_).mono fun g' w' hk=>⟨w4.heap.size,w2.heap.size,w1.heap.size,w4,_,hk,?_,rfl,?_,?_,?_,?_,hheap⟩
 .rintro a (ha|rfl)
  .exact s4.bnd a ha
  .rw[Zd];omega
 .rintro (h|h)
  .have:=s2.bnd _ h;omega
  .rw[HS2.out] at h;omega
 .rintro b rfl;rw[Zd];omega
 .have ahr:=hws d';refine⟨_,Gh (Gf w2.heap.size w.heap.size (w.heap.size+1)),[],d',_,stepG_spawn rfl rfl (by decide) (Qx rfl rfl _).1 rfl,aY _,?_,?_,?_,ahr⟩
  .rw[listed_none (Qx rfl rfl _).2];simp
  .exact Sr.aay ⟨.fn _ (by kernel_rfl) _ _ (dz (by
    intro u hu;simp at hu;rcases hu with rfl|rfl|rfl
    .exact .ptr _ _ ⟨⟨rfl,.inr rfl⟩,rfl,rfl⟩
    .exact .ptr _ _ ⟨⟨rfl,.inl hDp⟩,rfl,rfl⟩
    .exact .ptr _ _ ⟨⟨rfl,.inl hDq⟩,rfl,rfl⟩)),.nil⟩
  .walk_nrm;have hlen:(Plain.fC C.data C.lim (C.data.length+1) 0 bW.zero).ents.length*136<=140737488355328:=by
    have h1:0+512*(Plain.fC C.data C.lim (C.data.length+1) 0 bW.zero).ents.length<=C.data.length:=Plain.abd C.data C.lim 0 bW.zero (M8 _);have h2:=hC.dat.len;have h3:=hC.dn;omega
   have next:∀ (t':Array Value)(ω:World),HP C.wb rs w1.heap.size t' none 0 0->w4.heap.size<=ω.heap.size->gZ qp0 (fun b=>b=w2.heap.size) w1.heap.size (.agg fZ) Wu (ZG w4.heap.size C.wb rs w1.heap.size cs) (Plain.fC C.data C.lim (C.data.length+1) 0 bW.zero).ents.length [] (fun _=>False) (PV cs t' [0,1]) ω :=
    fun t' ω hP hs=>Xd cs _ hlen _ [] (fun _=>False) t' none 0 ω hP ⟨World.ownsRow_nil _ _ _ _,fun b hb=>(by cases hb),hs⟩ (by simp)
   generalize (Plain.fC C.data C.lim (C.data.length+1) 0 bW.zero).ents.length=m at next
   refine(Sr.Dk ..).2 ⟨20,?_⟩;refine dh rfl (fun _=>stepG_region_end) ?_;refine dh rfl (fun _=>stepG_seq) ?_;refine dh rfl (fun _=>stepG_region) ?_;simp only[rJ,oH,List.length_nil,Nat.reduceAdd,lU,List.range,List.range.loop];refine Lh rfl rfl (by decide) rfl w2.heap.size rfl ⟨_,underlying142,trivial⟩ hlc rfl ?_;walk_nrm;refine tN rfl rfl (by decide) (.inr rfl) ?_;walk_nrm;refine dh rfl (fun _=>stepG_region_end) ?_;refine dh rfl (fun _=>stepG_ret') ?_;refine dh rfl (fun w=>stepG_leave (v:=.chan (some w1.heap.size)) rfl rfl func41 (show(results Tryz.f41 _).run qp0 w=_ by kernel_rfl) (show(results Tryz.f41 _).events qp0 w #[]=_ by kernel_rfl)) ?_;rw[hpf];simp only[adC,VP,PV,Gv,LP2,LP,YP,iW,Tryz.f16,Option.getD_some] at next ⊢
   refine dh rfl (fun _=>stepG_region_end) ?_;refine dh rfl (fun _=>stepG_block) ?_;refine dh rfl (fun _=>stepG_loop) ?_;refine dh rfl (fun _=>stepG_seq) ?_;refine dh rfl (fun _=>stepG_region) ?_;simp only[rJ,oH,List.length_nil,Nat.reduceAdd,lU,List.range,List.range.loop];exact wm fun w₅ h₅=>next _ w₅ ⟨rfl,rfl,rfl,rfl,rfl⟩ h₅.size
 .exact hB.seq UA
 .exact CW (hcl.bnd _ hD) UA.size
 .exact tT (show C.w0.heap.size<=w.heap.size from hB.size) (show w.heap.size<=w1.heap.size from hb1.size)
 .exact fun b hb=>.inl (hD2 b hb)
 .rintro b (hb|rfl)
  .exact s4.bnd b hb
  .rw[Zd];omega
end St
end
section
open Go.Conc
open Cc (tp)
namespace St
open Cc (BW fI)
open Sr (dW iM VR AV OR OO HR GB LV)
section
variable {R:Nat->Nat->Prop}{L:FuncId->Bool}
theorem KD{cur cur':Array Value}(h:AV R L cur cur'){k:Nat}{l:List UInt8}(ht:cur.toList.take k=l.map jJ):cur'.toList.take k=l.map jJ:=by
 refine List.ext_getElem? fun i=>?_
 by_cases hi:i<k
 .have e1:=congrArg (·[i]?) ht;simp only[VX,hi,if_true,qaV] at e1 ⊢;rcases h.get i with⟨h1,h2⟩|⟨v,u,h1,h2,hv⟩
  .rw[h2,<-e1,h1]
  .rw[h2,<-e1,h1];have:∃ x,v=jJ x:=by
    rw[h1,qcw] at e1;obtain⟨x,_,hx⟩:=zA.1 e1.symm;exact⟨x,hx.symm⟩
   obtain⟨x,rfl⟩:=this
   cases hv
   rfl
 .have e1:=congrArg List.length ht;simp only[zQ,V7,U5] at e1;rw[qco (by simp;omega)];rw[qco (by simp;omega)]
theorem Sw{P:Program}{wg w:World}{N n0 wb:Nat}{xs:Array Value}(hgb:GB P R)(hh:HR R L wg.heap w.heap)(hlow:∀ a b,R a b->b<N->a=b)(hwb:R wb wb)(hxw:wg.heap[wb]? = some (.cells xs 85)){e:En}{x:Option Addr×Nat×Nat}(ho:iw wg N (e,x)){v:Value}(hv:VR R L (.agg (sS (e,x))) v):∃ x',v=.agg (sS (e,x'))/\iw w N (e,x')/\∀ b,(Value.slice x'.1 x'.2.1 x'.2.2).ownBlock=some b->b≠wb:=by
 obtain⟨a,n,c⟩:=x;have key:∀ a':Option Addr,VR R L (.slice a n c) (.slice a' n c)->v=.agg (sS (e,(a',n,c))):=fun a' ha=>by
  refine VR.fn hgb.fn (fun a b h=>(hh.Af a b h).1) hv (VR.DC ⟨rfl,fun i p q hp hq=>?_⟩)
  match i with
  | 10 =>
   have hp:some (Value.slice a n c)=some p:=hp;have hq:some (Value.slice a' n c)=some q:=hq
   cases hp;cases hq;exact ha
  | 0|1|2|3|4|5|6|7|8|9 =>
   cases hp;cases hq;constructor
  | k+11=>rw[MW (show 11<=k+11 by omega)] at hp;cases hp
 have h10:∃ u,VR R L (.slice a n c) u:=by
  cases hv with
  | agg X Y hs hp =>
   have hlt:10<Y.size:=by rw[<-hs];show 10<11;decide
   exact⟨Y[10],hp 10 _ _ rfl (mJ hlt)⟩
 obtain⟨u,hu⟩:=h10;obtain⟨hlen,hown⟩:=ho;rcases hown with⟨h1,h2⟩|⟨g,cap,cur,h1,h2,h3,h4,h5,h6,h7⟩
 .cases h1
  exact⟨(none,0,0),key none (.iq 0 0),⟨hlen,.inl ⟨rfl,rfl⟩⟩,fun b hb=>by cases hb⟩
 .cases h1
  cases hu with
  | slice A B n c hab =>
   obtain⟨bb,bo,bp⟩:=B;obtain⟨hR,ho,hp⟩:=hab;simp only at hR ho hp;subst ho hp;have Fp:=hh.rel g bb hR;rw[h3] at Fp;generalize hbb:w.heap[bb]? = ob at Fp
   cases Fp with
   | some hor =>
    cases hor with
    | cells X Y E f AY =>
     refine⟨(some ⟨bb,0,none⟩,n,c),key _ (.slice _ _ _ _ ⟨hR,rfl,rfl⟩),⟨hlen,.inr ⟨bb,c,Y,rfl,?_,hbb,h4,h5,by rw[<-AY.1];exact h6,KD AY h7⟩⟩,fun b hb=>?_⟩
     .rcases qb7 bb N with h|h
      .have:=hlow _ _ hR h;subst this;exact absurd h2 (by omega)
      .exact h
     .cases hb
      intro e1;have e1:bb=wb:=e1;subst e1;have:=hgb.inj _ _ _ hR hwb;subst this;rw[h3] at hxw
      cases hxw
theorem Db{P:Program}{wg w:World}{N n0 wb:Nat}{xs:Array Value}(hgb:GB P R)(hh:HR R L wg.heap w.heap)(hlow:∀ a b,R a b->b<N->a=b)(hwb:R wb wb)(hxw:wg.heap[wb]? = some (.cells xs 85)):∀ {vs acc:List Value}{es:List En},LV R L vs acc->qH wg N vs es->∃ Q:List EU,Q.map (·.1)=es/\acc=Q.map (fun e=>.agg (sS e))/\∀ e∈Q,iw w N e/\∀ b,(Value.slice e.2.1 e.2.2.1 e.2.2.2).ownBlock=some b->b≠wb
 | _,_,es,.nil,he=>⟨[],(O8 (by have:=he.1;simpa using this.symm)).symm,rfl,fun e h=>by cases h⟩
 | v::vs,u::acc,[],.cons hv h,he=>absurd he.1 (by simp)
 | v::vs,u::acc,e::es,.cons hv h,he=>by
  obtain⟨x,rfl,ho⟩:=he.2 0 v e rfl rfl;obtain⟨x',rfl,h1,h2⟩:=Sw (n0:=n0) hgb hh hlow hwb hxw ho hv;obtain⟨Q,rfl,rfl,h3⟩:=Db (n0:=n0) hgb hh hlow hwb hxw h ⟨by have:=he.1;simpa using this,fun i v e hv he'=>he.2 (i+1) v e hv he'⟩;refine⟨(e,x')::Q,rfl,rfl,fun y hy=>?_⟩;rcases rD.1 hy with rfl|hy
  .exact⟨h1,h2⟩
  .exact h3 y hy
end
structure aeM(C:Cn)(rs:Nat)(R:Plain.Pz)(cs:List Frame)(g:Goroutine)(w:World):Prop where
 ex:∃ (n0 c:Nat)(t:Array Value)(x:Option Addr)(n cp:Nat)(Q:List EU)(ys:Array Value),g=PV cs t [1]/\HP C.wb rs c t x n cp/\t.getD 20 au=.tuple #[.agg fZ,.bool false] /\
  Q.map (·.1)=R.ents/\w.ownsRow n0 42 11 (.slice x n cp) n (Q.flatMap fG)/\(∀ e∈Q,iw w C.w0.heap.size e/\∀ b,(Value.slice e.2.1 e.2.2.1 e.2.2.2).ownBlock=some b->b≠C.wb) /\
  w.heap[C.wb]? = some (.cells ys 85)/\ys.size=12/\ys[4]? = some (.slice none 0 0)/\ys[5]? = some (.int .i64 R.code)/\ys[6]? = some (.int .i64 R.off)/\ys[7]? = some (.int .i64 R.held)/\C.wb<n0/\C.w0.heap.size<=n0
 bJ:fI C.w0 w
theorem adO{ε:Nat×Nat}{C:Cn}{rs:Nat}{D0:Nat->Prop}{cs:List Frame}{g:Goroutine}{w:World}(h:ClP ε C rs D0 cs g w)(hwb:D0 C.wb)(hw0:C.w0.heap.size<=C.wb):aeM C rs (Plain.fC C.data C.lim (C.data.length+1) 0 bW.zero) cs g w:=by
 obtain⟨n0,lb,c,wF,D,⟨X,R,wg,vs,acc,hfin,hfg,hlv,hgb,PK,hhr,hown⟩,hbel,hn0,acE,hc,hD0,hDlt,hhF⟩:=h.ex;generalize Plain.fC C.data C.lim (C.data.length+1) 0 bW.zero=RR at hfg ⊢;obtain⟨t,x,cp,rfl,hP,agK,hr⟩:=hfin;obtain⟨A,s,aga,hwk,agD,hlw⟩:=hfg;have hNn:C.w0.heap.size<=n0:=by rw[<-hn0];exact hbel.size
 have hlow:∀ a b,R a b->b<C.w0.heap.size->a=b:=fun a b hab hb=>(hown.low a b hab (by rw[hn0];omega)).1
 have hRw:R C.wb C.wb:=hown.sup _ _ ⟨rfl,hD0 _ hwb⟩;obtain⟨Q,hQ1,hQ2,hQ3⟩:=Db (w:=w) (n0:=n0) hgb hhr hlow hRw hwk hlv agD;have Fp:=hhr.rel _ _ hRw;rw[show wg.heap[C.wb]? = _ from hwk] at Fp;generalize hbb:w.heap[C.wb]? = ob at Fp
 cases Fp with
 | some hor =>
  cases hor with
  | cells Xs Y E f AY =>
   have hys:Y.size=12:=by rw[<-AY.1];rfl
   have hy:∀ i v,(VH C A RR.off s RR.code RR.off)[i]? = some v->VR R (iM ε) v v->(∀ u,VR R (iM ε) v u->u=v)->Y[i]? = some v:=fun i v hv _ hu=>by
    rcases AY.get i with⟨h1,_⟩|⟨p,q,h1,h2,h3⟩
    .rw[hv] at h1;cases h1
    .rw[hv] at h1;cases h1
     rw[h2,hu q h3]
   refine⟨⟨n0,c,t,x,acc.length,cp,Q,Y,rfl,hP,agK,hQ1,?_,hQ3,hbb,hys,?_,?_,?_,?_,acE,hNn⟩,?_⟩
   .have:=hr.own;have e:flat acc=Q.flatMap fG:=by rw[hQ2];unfold flat;rw[List.flatMap_map];rfl
    rw[e] at this;exact this
   .exact hy 4 _ rfl (.iq 0 0) fun u hu=>by cases hu;rfl
   .exact hy 5 _ rfl (.int _ _) fun u hu=>by cases hu;rfl
   .exact hy 6 _ rfl (.int _ _) fun u hu=>by cases hu;rfl
   .rw[<-aga];exact hy 7 _ rfl (.int _ _) fun u hu=>by cases hu;rfl
   .refine⟨hown.os.trans hbel.os,rfl,hown.out.trans hbel.output,tT hbel.size hown.E8,fun b hb=>?_⟩;have hbF:wF.heap[b]? = C.w0.heap[b]?:=hbel.block b hb;refine Eq.trans ?_ hbF;by_cases hR:∃ a,R a b
    .obtain⟨a,hab⟩:=hR;have hid:=hown.low a b hab (by rw[hn0];omega);obtain⟨rfl,hDb⟩:=hid;have h1:=hhr.rel a a hab;rw[hlw a hb,<-hbF] at h1;exact OO.fn (L:=iM ε) hgb.fn (fun a b h=>(hhr.Af a b h).1) h1 ((hhF.rel a a ⟨rfl,hDb⟩).mono hown.sup)
    .exact hown.frame b (by rw[hn0];omega) (fun a ha=>hR ⟨a,ha⟩) (by omega)
end St
end
section
open Go.Conc
open Cc (tp)
namespace Cc
section
variable {P:Program}{w:World}{Φ:Goroutine->World->Prop}{b:Frame}{a:Act}{k:List Item}{cs:List Frame}{o:Oper}
theorem lK{x:Operand}{ad:Addr}(hop:o.op=.nilCheck x)(hx:a.eval x=.pointer (some ad))(w:World):(execOp a.eval o).run P w=.ok (.value (.pointer (some ad))) w/\(execOp a.eval o).events P w #[]=#[]:=by
 simp only[Act.eval,Az] at hx;constructor
 .unfold execOp;simp[go_sem,hop,hx]
 .unfold execOp;simp[go_sem,hop,hx]
theorem pJ{x:Operand}{ad:Addr}{s:TypeId}{f:Nat}{fs:Array Field}{fl:Field}(hop:o.op=.fieldAddr s x f)(hx:a.eval x=.pointer (some ad))(hu:P.underlying s=some (.struct fs))(hf:fs[f]? = some fl)(hi0:(P.info? fl.type).map (fun i=>i.size==0)=some false)(w:World):(execOp a.eval o).run P w=.ok (.value (.pointer (some (ad.add fl.offset)))) w/\(execOp a.eval o).events P w #[]=#[]:=by
 simp only[Act.eval,Az] at hx;obtain⟨inf,hi,hne⟩:=zA.1 hi0;have hne:inf.size≠0:=by simpa using hne
 constructor
 .unfold execOp;simp[go_sem,hop,hx,Instr.fieldAt,run_underlying hu,hf,Instr.sureAddr,fieldPlace,sizeOf,typeInfo,hi,hne]
 .unfold execOp;simp[go_sem,hop,hx,Instr.fieldAt,run_underlying hu,hf,Instr.sureAddr,fieldPlace,sizeOf,typeInfo,hi,hne]
theorem BW.NC{fn:Func}{todo:List Item}{c:Frame}{v:Value}(hn:b.kind=.normal)(hd:a.defers=[])(hf:P.funcs[b.fn]? = some fn)(hr:∀ d,(results fn a.tmps).run P (w.at d)=.ok v (w.at d))(h:BW P (G (c.finish v) cs) w Φ):BW P (G {b.at a todo with mode:=.returning} (c::cs)) w Φ:=by
 refine BW.step rfl fun d=>?_
 obtain⟨n,r,es',hres⟩:=dZ (kS (P:=P) fn a.tmps) (w.at d) #[];have hlow:=qR hres.low;have h1:r=.ok v (w.at d):=by
  have:((results fn a.tmps).runT P (w.at d) #[]).1=.ok v (w.at d):=by rw[Sem.runT_fst];exact hr d
  rw[hres.eq] at this;exact this
 subst h1;have hev:(results fn a.tmps).events P (w.at d) #[]=es':=by unfold Sem.events;rw[hres.eq]
 refine⟨_,w.at d,seen P b.fn es',?_,aY _,fM hlow,h.at d⟩;simp[G,stepG,unwind,doReturn,Frame.at,hn,hd,hf,hr d,hev,GStep.after]
end
end Cc
namespace St
open Cc (BW fI eP lK pJ)
structure PsR(w0:World)(B:Nat)(rs:Nat)(R:Plain.Pz)(v:Value)(w:World):Prop where
 ex:∃ (x:Option Addr)(n cp:Nat)(Q:List EU),v=.agg #[.slice x n cp,.int .i64 R.code,.int .i64 R.off,.int .i64 R.held]/\Q.map (·.1)=R.ents/\w.ownsRow B 42 11 (.slice x n cp) n (Q.flatMap fG)/\∀ e∈Q,iw w B e
 os:w.os=w0.os
 out:w.output=w0.output
 size:w0.heap.size<=w.heap.size
 block:∀ b,b<w0.heap.size->b≠rs->w.heap[b]? = w0.heap[b]?
structure RL(g:Nat)(w w':World):Prop where
 os:w'.os=w.os
 out:w'.output=w.output
 size:w.heap.size<=w'.heap.size
 block:∀ b,b<w.heap.size->b≠g->w'.heap[b]? = w.heap[b]?
theorem RL.tp{g:Nat}{w w':World}(h:RL g w w')(τ:Nat->Question->Nat)(d:Nat):RL g w (tp w' τ d):=⟨h.os,h.out,h.size,h.block⟩
theorem aao{C:Cn}{rs:Nat}{R:Plain.Pz}{cs:List Frame}{cf:Frame}{g:Goroutine}{w:World}{Φ:Goroutine->World->Prop}{z:Array Value}(h:aeM C rs R (cf::cs) g w)(hrs:C.w0.heap[rs]? = some (.cells z 30))(hz:z.size=4)(hwb:C.w0.heap.size<=C.wb)(hn:∀ v w',PsR C.w0 C.w0.heap.size rs R v w'->BW qp0 (G (cf.finish v) cs) w' Φ):BW qp0 g w Φ:=by
 obtain⟨⟨n0,c,t,x,n,cp,Q,ys,rfl,hP,ht,hQ,hown,hdat,hrow,hys,y4,y5,y6,y7,hlt,hle⟩,hbel⟩:=h;have e:=Vw hP.size;rw[hP.res,hP.wk,hP.list,hP.chan,ht] at e;rw[e];clear e hP ht;simp only[PV,Gv,LP2,LP,YP,iW,Tryz.f16,Option.getD_some];refine BW.jU rfl rfl (by decide) _ (fun ω=>eP rfl rfl rfl ω) ?_;walk_nrm;refine BW.rend ?_;refine BW.seq ?_;refine BW.cond (t:=false) rfl ?_;simp only[jI,if_false];refine BW.ctl rfl (fun _=>stepG_exit rfl) ?_;refine BW.seq ?_;refine BW.region ?_;simp only[rJ,oH,List.length_nil,Nat.reduceAdd,lU,List.range'];refine BW.move rfl rfl (by decide) (.inl rfl) ?_;walk_nrm;refine BW.move rfl rfl (by decide) (.inl rfl) ?_;walk_nrm;refine BW.jU rfl rfl (by decide) _ (fun ω=>lK rfl rfl ω) ?_;walk_nrm;refine BW.jU rfl rfl (by decide) _ (fun ω=>pJ rfl rfl underlying85 rfl (by kernel_rfl) ω) ?_;walk_nrm;refine BW.jU rfl rfl (by decide) _ (fun ω=>pJ rfl rfl underlying30 rfl (by kernel_rfl) ω) ?_;walk_nrm;refine Cc.BW.TV au (Rw:=fun y=>RL C.wb w y/\y.heap[C.wb]? = some (.cells (ys.setIfInBounds 4 (.slice x n cp)) 85)) LG rfl (by decide) rfl (fun τ d=>?_) (fun w' τ d hr=>⟨hr.1.tp τ d,hr.2⟩) fun w1 hr1=>?_
 .have hx1:(tp w τ d).cell? ⟨C.wb,4,none⟩=some (.slice none 0 0):=(Gr.aG (w:=tp w τ d) hrow 4).trans y4;have hx2:=Gr.aS (w:=tp w τ d) hrow 4;have hx3:=Gr.aO (w:=tp w τ d) hrow (j:=4) (.slice x n cp);have hg:=Gr.aD (tp w τ d) C.wb 4 (.slice x n cp);go_wp2
  exact⟨hg.os,hg.output,hg.size,fun b hb hne=>hg.block b hb (fun e=>hne (pQ e))⟩
 obtain⟨hb1,afp⟩:=hr1;walk_nrm;refine BW.rend ?_;refine BW.seq ?_;refine BW.region ?_;simp only[rJ,oH,List.length_nil,Nat.reduceAdd,lU,List.range'];refine BW.move rfl rfl (by decide) (.inl rfl) ?_;walk_nrm;refine BW.jU rfl rfl (by decide) _ (fun ω=>lK rfl rfl ω) ?_;walk_nrm;refine BW.jU rfl rfl (by decide) _ (fun ω=>pJ rfl rfl underlying85 rfl (by kernel_rfl) ω) ?_;walk_nrm;have hcell:∀ j,w1.cell? ⟨C.wb,j,none⟩=(ys.setIfInBounds 4 (.slice x n cp))[j]?:=fun j=>Gr.aG afp j
 have h4:(ys.setIfInBounds 4 (.slice x n cp))[4]? = some (.slice x n cp):=by rw[Sn (by omega)]
 have h5:(ys.setIfInBounds 4 (.slice x n cp))[5]? = some (.int .i64 R.code):=by rw[ow (by decide)];exact y5
 have h6:(ys.setIfInBounds 4 (.slice x n cp))[6]? = some (.int .i64 R.off):=by rw[ow (by decide)];exact y6
 have h7:(ys.setIfInBounds 4 (.slice x n cp))[7]? = some (.int .i64 R.held):=by rw[ow (by decide)];exact y7
 refine Cc.BW.TV (.agg #[.slice x n cp,.int .i64 R.code,.int .i64 R.off,.int .i64 R.held]) (Rw:=fun y=>∃ τ d,y=tp w1 τ d) LG rfl (by decide) rfl (fun τ d=>?_) (fun w' τ d hr=>⟨τ,d,by obtain⟨_,_,rfl⟩:=hr;rfl⟩) fun w2 hr2=>?_
 .refine cK rfl _ _ rfl C.wb 4 rfl #[.slice x n cp,.int .i64 R.code,.int .i64 R.off,.int .i64 R.held] _ (fun j v hj=>?_) underlying30 rfl (by kernel_rfl) ⟨rfl,rfl,τ,d,rfl⟩;show w1.cell? _=_;rw[hcell]
  match j with
  | 0=>cases hj;exact h4
  | 1=>cases hj;exact h5
  | 2=>cases hj;exact h6
  | 3=>cases hj;exact h7
  | k+4=>rw[qco (show 4<=k+4 by omega)] at hj;cases hj
 obtain⟨τ,d,rfl⟩:=hr2;walk_nrm;have afT:rs<C.w0.heap.size:=(fT.1 hrs).1;have ahx:C.w0.heap.size<=w.heap.size:=hbel.size;have afJ:w1.heap[rs]? = some (.cells z 30):=by
  rw[hb1.block rs (by omega) (by omega),hbel.block rs afT];exact hrs
 refine Cc.BW.TV au (Rw:=fun y=>RL rs w1 y/\y.heap[rs]? = some (.cells #[.slice x n cp,.int .i64 R.code,.int .i64 R.off,.int .i64 R.held] 30)) LG rfl (by decide) rfl (fun τ d=>?_) (fun w' τ d hr=>⟨hr.1.tp τ d,hr.2⟩) fun w3 hr3=>?_
 .refine wpList_store_row rfl _ _ _ rfl rs rfl #[.slice x n cp,.int .i64 R.code,.int .i64 R.off,.int .i64 R.held] rfl z 30 afJ (by rw[hz];rfl) (by kernel_rfl) (by intro u hu;simp at hu;rcases hu with rfl|rfl|rfl|rfl <;> rfl) ⟨rfl,rfl,⟨rfl,rfl,by rw[size_setRow];exact aY _,fun b hb hne=>setRow_other _ _ _ _ hne⟩,setRow_heap _ _ _ _ _ _ afJ⟩
 obtain⟨hb3,hrow3⟩:=hr3;walk_nrm;refine BW.rend ?_;refine BW.ret ?_;refine Cc.BW.NC (v:=.agg #[.slice x n cp,.int .i64 R.code,.int .i64 R.off,.int .i64 R.held]) rfl rfl func16 (fun d'=>results_cell_row rfl _ _ rs _ _ _ _ rfl hrow3 underlying30 rfl (by kernel_rfl)) ?_;have keep:∀ {B sz m:Nat}{e:TypeId}{u:Value}{xs:List Value},w.ownsRow B e sz u m xs->(∀ b,u.ownBlock=some b->b≠C.wb/\b≠rs)->w3.ownsRow B e sz u m xs:=fun ho hne=>Gr.gJ ho fun b hb=>by
  have hbl:=(ho.lt b hb).2;have:=hb1.size;rw[hb3.block b (by omega) (hne b hb).2,hb1.block b hbl (hne b hb).1]
 refine hn _ _ ⟨⟨x,n,cp,Q,rfl,hQ,World.ownsRow.mono (keep hown fun b hb=>?_) hle,fun e he=>keep (hdat e he).1 fun b hb=>⟨(hdat e he).2 b hb,?_⟩⟩,?_,?_,?_,fun b hb hne=>?_⟩
 .have:=(hown.lt b hb).1;omega
 .have:=((hdat e he).1.lt b hb).1;omega
 .exact hb3.os.trans (hb1.os.trans hbel.os)
 .exact hb3.out.trans (hb1.out.trans hbel.output)
 .exact tT ahx (tT hb1.size hb3.size)
 .have:=hb1.size;rw[hb3.block b (by omega) hne,hb1.block b (by omega) (by omega)];exact hbel.block b hb
end St
end
section
open Go.Conc
open Cc (tp)
namespace St
open Cc (BW fI eP lK pJ)
open Sr (dW iM bU gB dR kg uE)
noncomputable def cP0:Code:=match iW with|.seq c _=>c|_=>.skip
noncomputable def cP1:Code:=match iW with|.seq _ (.seq c _)=>c|_=>.skip
noncomputable def cP2:Code:=match iW with|.seq _ (.seq _ (.seq c _))=>c|_=>.skip
noncomputable def cP4:Code:=match iW with|.seq _ (.seq _ (.seq _ (.seq c _)))=>c|_=>.skip
noncomputable def Gn:List Code:=[cP1,cP2,cP4]
theorem WT:iW=.seq cP0 (dR Gn Ga):=by
 simp only[Gn,dR,cP0,cP1,cP2,cP4,Ga,iW,Tryz.f16,Option.getD_some]
def Q0P(w:World)(a:Option Addr)(n c:Nat)(lim:kG)(rs:Nat):Exit->Act->World->Prop
 | .normal,x,w'=>Plain.eT lim=true/\x.defers=[]/\x.tmps.size=36/\x.tmps.getD 4 au=pv rs/\x.tmps.getD 5 au=pv (w.heap.size+2)/\x.tmps.getD 7 au=.slice none 0 0/\∃ τ d,w'=tp (Fy w a n c lim) τ d
 | .ret,x,w'=>Plain.eT lim=false/\x.defers=[]/\x.tmps.getD 4 au=pv rs/\∃ τ d,w'=tp ((rC w lim).setRow rs #[.slice none 0 0,.int .i64 78,.int .i64 0,.int .i64 0]) τ d
 | _,_,_=>False
def tP0(a:Option Addr)(n c:Nat)(lim:kG)(N:Nat):Array Value:=#[.slice a n c,nV lim,au,pv N,pv (N+1),au,au,au,au,au,au,au,au,au,au,au,au,au,au,au,au,au,au,au,au,au,au,au,au,au,au,au,au,au,au,au]
section
variable {ε:Nat×Nat}
theorem abl:kg qp0 (dW ε) Sr.kW [] (dR Gn (.refuse ""))=true:=by kernel_rfl
end
theorem aar(a:Option Addr)(n c:Nat)(lim:kG)(N:Nat)(w:World)(hN:w.heap.size=N+2)(h0:w.heap[N]? = some (.cells #[.int .i64 lim.name,.int .i64 lim.iP] 24))(h1:w.heap[N+1]? = some (.cells #[.slice none 0 0,.int .i64 0,.int .i64 0,.int .i64 0] 30)):gB qp0 (Q0P w a n c lim (N+1)) Gn ⟨tP0 a n c lim N,[]⟩ w:=by
 have hc0:w.cell? ⟨N,0,none⟩=some (.int .i64 lim.name):=cell_of_row _ _ _ _ _ _ h0;have hc1:w.cell? ⟨N,1,none⟩=some (.int .i64 lim.iP):=cell_of_row _ _ _ _ _ _ h0;unfold tP0 pv;simp only[Gn,cP1,cP2,cP4,iW,Tryz.f16,Option.getD_some,gB];have HN:=ah hN;clear hN;have HB:=RP a n c lim w
 cases hl:Plain.eT lim with
 | true =>
  have HB:=ah (HB.mono (R':=fun e w'=>e=.returned (.tuple #[.pointer (some ⟨w.heap.size+2,0,none⟩),.bool true])/\w'=Fy w a n c lim) fun e w' h=>by
   rcases h with⟨_,h1,h2⟩|⟨h0,_⟩
   .exact⟨h1,h2⟩
   .rw[hl] at h0;cases h0)
  go_wp2_with (go_at_call 40;refine(HB.out).mono ?_;rintro e w2 ⟨rfl,rfl⟩)
  exact⟨hl,rfl,rfl,rfl,rfl,rfl,w.tape,w.drawn,rfl⟩
 | false =>
  have HB:=ah (HB.mono (R':=fun e w'=>e=.returned (.tuple #[.pointer none,.bool false])/\w'=rC w lim) fun e w' h=>by
   rcases h with⟨h0,_⟩|⟨_,h1,h2⟩
   .rw[hl] at h0;cases h0
   .exact⟨h1,h2⟩)
  have h2:(rC w lim).heap[N+1]? = some (.cells #[.slice none 0 0,.int .i64 0,.int .i64 0,.int .i64 0] 30):=by
   have hlt:=(fT.1 h1).1;exact(((Below.refl w.heap.size w).alloc (aY _) _:Below w.heap.size w (rC w lim)).block _ hlt).trans h1
  have hs4:(qp0.info? 30).map (·.size)=some (#[Value.slice none 0 0,.int .i64 78,.int .i64 0,.int .i64 0]:Array Value).size:=by kernel_rfl
  have Rs:∀ u∈(#[Value.slice none 0 0,.int .i64 78,.int .i64 0,.int .i64 0]:Array Value).toList,u.oneCell'=true:=by intro u hu;simp at hu;rcases hu with rfl|rfl|rfl <;> rfl
  go_wp2_with (first|(go_at_call 40;refine(HB.out).mono ?_;rintro e w2 ⟨rfl,rfl⟩)|(with_reducible refine wpList_store_row rfl 30 _ _ rfl (N+1) rfl #[.slice none 0 0,.int .i64 78,.int .i64 0,.int .i64 0] rfl #[.slice none 0 0,.int .i64 0,.int .i64 0,.int .i64 0] 30 h2 rfl hs4 Rs ?_))
  exact⟨hl,rfl,rfl,w.tape,w.drawn,rfl⟩
theorem ace{w:World}{a:Option Addr}{n c:Nat}{lim:kG}{rs:Nat}{e:Exit}{x:Act}{w':World}(h:Q0P w a n c lim rs e x w'):uE qp0 e:=by
 cases e <;> first|trivial|exact h.elim
theorem acV{w:World}{a:Option Addr}{n c:Nat}{lim:kG}{rs:Nat}{e:Exit}{x:Act}{w':World}(h:Q0P w a n c lim rs e x w')(τ:Nat->Question->Nat)(d:Nat):Q0P w a n c lim rs e x (tp w' τ d):=by
 cases e with
 | normal=>obtain⟨h1,h2,h3,h4,h5,h6,jH,d',rfl⟩:=h;exact⟨h1,h2,h3,h4,h5,h6,τ,d,rfl⟩
 | ret=>obtain⟨h1,h2,h3,jH,d',rfl⟩:=h;exact⟨h1,h2,h3,τ,d,rfl⟩
 | _=>exact h.elim
structure Vf(w:World)(R:Plain.Pz)(v:Value)(w':World):Prop where
 ex:∃ (x:Option Addr)(n cp:Nat)(Q:List EU),v=.agg #[.slice x n cp,.int .i64 R.code,.int .i64 R.off,.int .i64 R.held]/\Q.map (·.1)=R.ents/\w'.ownsRow w.heap.size 42 11 (.slice x n cp) n (Q.flatMap fG)/\∀ e∈Q,iw w' w.heap.size e
 bJ:fI w w'
section
variable {ε:Nat×Nat}{Φ:Goroutine->World->Prop}{b:Frame}{a:Act}{k:List Item}{cs:List Frame}{w:World}{ops:Array Oper}{i:Nat}{rest:List Nat}{o:Oper}
theorem xP{w w':World}(h:fI w w')(k:uF w):uF w':=uF.below (w:=tp w w'.tape w'.drawn) k h
theorem tH{w w':World}{ev:Value}(h:fI w w')(k:eO w ev):eO w' ev:=eO.below (w:=tp w w'.tape w'.drawn) k h
theorem xW{w w':World}(h:fI w w')(k:lV w):lV w':=lV.below (w:=tp w w'.tape w'.drawn) k h
theorem JX(ho:ops[i]? = some o)(hwt:Region.wanted o (yielded ops a.tmps)=true)(hk:b.kind≠.early){x y:Operand}{ats:Array TypeId}(hop:o.op=.call {callee:=.value (.func 16),args:=#[x,y],argTypes:=ats}){da:Option Addr}{dn dc:Nat}{lim:kG}{data:List UInt8}{ev:Value}(hx:a.eval x=.slice da dn dc)(hy:a.eval y=nV lim)(hdat:Bs w da dn dc data)(hdn:dn<=140737488351232)(hml:uF w)(her:eO w ev)(hpw:lV w){D:Nat->Prop}(hcl:bU qp0 (dW ε) (fun _=>False) D #[.slice da dn dc] w)(hn:∀ v w',Vf w (Plain.jA data lim) v w'->BW qp0 (G (b.at (a.put o.dst v) (.inRegion ops rest::k)) cs) w' Φ):BW qp0 (G (b.at a (.inRegion ops (i::rest)::k)) cs) w Φ:=by
 have hname:(Tryz.f16.name == "runtime.NumGoroutine")=false:=by simp only[Tryz.f16];decide
 have hbody:Tryz.f16.body=some iW:=by simp only[iW,Tryz.f16,Option.getD_some]
 have hts:#[Value.slice da dn dc,nV lim]++Array.replicate (Tryz.f16.ntmps-#[Value.slice da dn dc,nV lim].size) au=#[.slice da dn dc,nV lim,au,au,au,au,au,au,au,au,au,au,au,au,au,au,au,au,au,au,au,au,au,au,au,au,au,au,au,au,au,au,au,au,au,au]:=by kernel_rfl
 refine Cc.BW.enter ho hwt hk hop func16 hname hbody (vs:=#[.slice da dn dc,nV lim]) (by simp[hx,hy]) hts fun pf hpf=>?_
 rw[WT];refine BW.seq ?_;simp only[cP0,iW,Tryz.f16,Option.getD_some];unfold nV;apply Cc.BW.Jj (hP:=LG) (hk:=by decide) (hok:=by kernel_rfl) (Rr:=fun x y=>x=⟨tP0 da dn dc lim w.heap.size,[]⟩/\∃ τ d,y=tp ((w.alloc (.cells #[.int .i64 lim.name,.int .i64 lim.iP] 24)).alloc (.cells #[.slice none 0 0,.int .i64 0,.int .i64 0,.int .i64 0] 30)) τ d)
 .intro τ d;go_wp2
  exact⟨rfl,τ,d,rfl⟩
 .rintro x y τ d ⟨h1,jH,d',rfl⟩;exact⟨h1,τ,d,rfl⟩
 rintro a1 w1 ⟨rfl,τ,d,rfl⟩;have s0:bU qp0 (dW ε) (fun _=>False) D #[] w:=⟨hcl.off,hcl.gb,hcl.bnd,hcl.heap,.nil⟩;have hda:Sr.VR (Sr.mQ D) (dW ε) (.slice da dn dc) (.slice da dn dc):=hcl.tmps.2 0 _ _ rfl rfl;have s1:=nu s0 (ob:=.cells #[.int .i64 lim.name,.int .i64 lim.iP] 24) (.cells _ _ _ _ (dz (by intro u hu;simp at hu;rcases hu with rfl|rfl <;> exact .int _ _)));have s2:=nu s1 (ob:=.cells #[.slice none 0 0,.int .i64 0,.int .i64 0,.int .i64 0] 30) (.cells _ _ _ _ (dz (by intro u hu;simp at hu;rcases hu with rfl|rfl|rfl|rfl <;> first|exact .iq _ _|exact .int _ _)));have hsz0:(w.alloc (.cells #[.int .i64 lim.name,.int .i64 lim.iP] 24)).heap.size=w.heap.size+1:=by simp
 have hr0:((w.alloc (.cells #[.int .i64 lim.name,.int .i64 lim.iP] 24)).alloc (.cells #[.slice none 0 0,.int .i64 0,.int .i64 0,.int .i64 0] 30)).heap[w.heap.size]? = some (.cells #[.int .i64 lim.name,.int .i64 lim.iP] 24):=by
  rw[((Below.refl _ _).alloc (aY _) _:Below (w.alloc (.cells #[.int .i64 lim.name,.int .i64 lim.iP] 24)).heap.size _ _).block _ (by rw[hsz0];omega)];exact heap_alloc_new w _
 have hr1:((w.alloc (.cells #[.int .i64 lim.name,.int .i64 lim.iP] 24)).alloc (.cells #[.slice none 0 0,.int .i64 0,.int .i64 0,.int .i64 0] 30)).heap[w.heap.size+1]? = some (.cells #[.slice none 0 0,.int .i64 0,.int .i64 0,.int .i64 0] 30):=by
  have:=heap_alloc_new (w.alloc (.cells #[.int .i64 lim.name,.int .i64 lim.iP] 24)) (.cells #[.slice none 0 0,.int .i64 0,.int .i64 0,.int .i64 0] 30);rw[hsz0] at this;exact this
 have hsz1:((w.alloc (.cells #[.int .i64 lim.name,.int .i64 lim.iP] 24)).alloc (.cells #[.slice none 0 0,.int .i64 0,.int .i64 0,.int .i64 0] 30)).heap.size=w.heap.size+2:=by simp
 have hb1:fI w ((w.alloc (.cells #[.int .i64 lim.name,.int .i64 lim.iP] 24)).alloc (.cells #[.slice none 0 0,.int .i64 0,.int .i64 0,.int .i64 0] 30)):=.of (((Below.refl _ _).alloc (aY _) _).alloc (by rw[hsz0];omega) _);rw[hsz0] at s2;have s2:=s2.tp τ d;have hb1:=hb1.tp τ d;generalize hw1:tp ((w.alloc (.cells #[.int .i64 lim.name,.int .i64 lim.iP] 24)).alloc (.cells #[.slice none 0 0,.int .i64 0,.int .i64 0,.int .i64 0] 30)) τ d=w1;have hsz1:w1.heap.size=w.heap.size+2:=by rw[<-hw1];exact hsz1
 have hr0:w1.heap[w.heap.size]? = some (.cells #[.int .i64 lim.name,.int .i64 lim.iP] 24):=by rw[<-hw1];exact hr0
 have hr1:w1.heap[w.heap.size+1]? = some (.cells #[.slice none 0 0,.int .i64 0,.int .i64 0,.int .i64 0] 30):=by rw[<-hw1];exact hr1
 rw[hw1] at s2 hb1;clear hw1 s1 hsz0;have hD0:∀ b,D b->Sr.grown (Sr.grown D w.heap.size 1) (w.heap.size+1) 1 b:=fun b hb=>.inl (.inl hb)
 have hDp:Sr.grown (Sr.grown D w.heap.size 1) (w.heap.size+1) 1 w.heap.size:=.inl (.inr (by omega));have hDq:Sr.grown (Sr.grown D w.heap.size 1) (w.heap.size+1) 1 (w.heap.size+1):=.inr (by omega);generalize Sr.grown (Sr.grown D w.heap.size 1) (w.heap.size+1) 1=D2 at s2 hD0 hDp hDq;have AY:Sr.AV (Sr.mQ D2) (dW ε) (tP0 da dn dc lim w.heap.size) (tP0 da dn dc lim w.heap.size):=dz (by
  intro u hu;simp only[tP0,rD,xS,or_false] at hu;rcases hu with rfl|rfl|rfl|rfl|rfl|hu
  .exact hda.mono fun a b h=>⟨h.1,hD0 _ h.2⟩
  .unfold nV;exact .DC (dz (by intro u hu;simp at hu;rcases hu with rfl|rfl <;> exact .int _ _))
  .exact Sr.dG
  .exact .ptr _ _ ⟨⟨rfl,hDp⟩,rfl,rfl⟩
  .exact .ptr _ _ ⟨⟨rfl,hDq⟩,rfl,rfl⟩
  .have:u=au:=by simpa using hu
   subst this;exact Sr.dG)
 have s3:bU qp0 (dW ε) (fun _=>False) D2 (tP0 da dn dc lim w.heap.size) w1:=⟨s2.off,s2.gb,s2.bnd,s2.heap,AY⟩;refine Sr.YJ (b:=base 16) (a:=⟨tP0 da dn dc lim w.heap.size,[]⟩) (l:=Gn) (r:=.inl Ga) (k:=[]) (Q:=Q0P w1 da dn dc lim (w.heap.size+1)) Vn Ud WG trivial rfl rfl abl s3 (fun τ d=>aar da dn dc lim w.heap.size (tp w1 τ d) hsz1 hr0 hr1) (fun e a w h=>ace h) (fun e a w τ d h=>acV h τ d) fun e a' fr w2 D' hq hst hsup hat=>?_
 have hbw:∀ {w2:World},fI w1 w2->fI w w2:=fun h=>hb1.seq h
 cases e with
 | normal =>
  obtain⟨hlim,hdf,abY,h4,h5,h7,τ2,d2,rfl⟩:=hq;obtain⟨tm,df⟩:=a';have hdf:df=[]:=hdf;subst hdf;have hat:fr=(base 16).at ⟨tm,[]⟩ [.code Ga]:=hat;subst hat;have Y7:Below w1.heap.size w1 (Fy w1 da dn dc lim):=(((Below.refl _ _).alloc (aY _) _).alloc (by simp) _).alloc (by simp;omega) _;have hsb:(Fy w1 da dn dc lim).heap.size=w1.heap.size+3:=by unfold Fy rC;simp
  have hbb:fI w1 (tp (Fy w1 da dn dc lim) τ2 d2):=fI.tp (.of Y7) τ2 d2
  let C:Cn:=⟨w1,w1.heap.size+2,w1.heap.size+1,da,dn,dc,data,lim,ev⟩
  have hC:C.Ok:=⟨hb1.keeps.bs hdat,hdn,by show w1.heap.size<=w1.heap.size+2;omega,by show w1.heap.size<=w1.heap.size+1;omega,by show w1.heap.size+2≠w1.heap.size+1;omega,xP hb1 hml,tH hb1 her,xW hb1 hpw,hlim⟩;have hrow:(Fy w1 da dn dc lim).heap[w1.heap.size+2]? = some (.cells (VH C .zero 0 bW.zero 0 0) 85):=by
   have:=heap_alloc_new ((rC w1 lim).alloc (.map #[] 0)) (.cells (wk0 da dn dc lim (w1.heap.size+1)) 85);have e:((rC w1 lim).alloc (.map #[] 0)).heap.size=w1.heap.size+2:=by unfold rC;simp
   rw[e] at this;exact this
  have hmap:Gr.Mp zG qp0 5 (Fy w1 da dn dc lim) (w1.heap.size+1) (JM bW.zero) (gY bW.zero):=by
   have h0:=Gr.Mp.made zG (rC w1 lim) qp0 5;have e:(rC w1 lim).heap.size=w1.heap.size+1:=by unfold rC;simp
   rw[e] at h0;have hl0:gY bW.zero=fun _=>none:=by funext x;unfold gY;simp[bW.zero]
   have hs0:JM bW.zero=0:=rfl;rw[hl0,hs0];exact Gr.Mp.below h0 ((Below.refl _ _).alloc (aY _) _) h0.lt
  have hW:∀ τ,Wk (C.tp τ) .zero 0 bW.zero (tp (tp (Fy w1 da dn dc lim) τ2 d2) τ 0):=fun τ =>
   ⟨⟨Y7.os,rfl,Y7.output,Y7.size,Y7.block⟩,hrow,World.ownsRow_nil _ _ _ _,World.ownsRow_nil _ _ _ _,hmap,JQ.nil,JQ.nil,Plain.G8 hlim,M8 _⟩
  have hDw:D' (w1.heap.size+2):=by
   have h6:tm[5]? = some (pv (w1.heap.size+2)):=by
    have hlt:5<tm.size:=by rw[show tm.size=36 from abY];decide
    have h5:tm.getD 5 au=pv (w1.heap.size+2):=h5;rw[Az,mJ hlt] at h5;rw[mJ hlt];exact congrArg some h5
   have hv:Sr.VR (Sr.mQ D') (dW ε) (pv (w1.heap.size+2)) (pv (w1.heap.size+2)):=hst.tmps.2 5 _ _ h6 h6
   cases hv with
   | ptr _ _ h=>exact h.1.2
  refine BW.bind (ZC (ε:=ε) (C:=C) hC (D:=D') (rs:=w.heap.size+1) (pf::cs) abY h4 h5 h7 ⟨hst.off,hst.gb,hst.bnd,hst.heap,.nil⟩ hW hDw hbb) fun g w3 agG=>?_
  refine aao (adO agG hDw hC.wb) hr1 rfl hC.wb fun v w4 hps=>?_
  rw[hpf];refine hn v w4 ?_;have hsr:Plain.jA data lim=Plain.fC data lim (data.length+1) 0 bW.zero:=by unfold Plain.jA;rw[if_pos hlim]
  rw[hsr];obtain⟨⟨x',n',cp',Q,e1,e2,e3,e4⟩,p2,p3,p4,p5⟩:=hps;have hle:w.heap.size<=w1.heap.size:=by omega
  refine⟨⟨x',n',cp',Q,e1,e2,World.ownsRow.mono e3 hle,fun q hq=>World.ownsRow.mono (e4 q hq) hle⟩,p2.trans hb1.os,rfl,p3.trans hb1.output,tT hle p4,fun b hb=>?_⟩;have hb:b<w.heap.size:=hb;exact(p5 b (show b<w1.heap.size by omega) (by omega)).trans (hb1.block b hb)
 | ret =>
  obtain⟨hlim,hdf,h4,τ2,d2,rfl⟩:=hq;obtain⟨tm,df⟩:=a';have hdf:df=[]:=hdf;subst hdf;obtain⟨todo,rfl⟩:=hat;have hrow:((rC w1 lim).setRow (w.heap.size+1) #[.slice none 0 0,.int .i64 78,.int .i64 0,.int .i64 0]).heap[w.heap.size+1]? = some (.cells #[.slice none 0 0,.int .i64 78,.int .i64 0,.int .i64 0] 30):=by
   have hlt:w.heap.size+1<w1.heap.size:=by omega
   exact setRow_heap _ _ _ _ _ _ ((((Below.refl w1.heap.size w1).alloc (aY _) _:Below w1.heap.size w1 (rC w1 lim)).block _ hlt).trans hr1)
  refine Cc.BW.NC (v:=.agg #[.slice none 0 0,.int .i64 78,.int .i64 0,.int .i64 0]) rfl rfl func16 (fun d'=>results_cell_row rfl _ _ (w.heap.size+1) _ _ _ _ h4 hrow underlying30 rfl (by kernel_rfl)) ?_;rw[hpf];refine hn _ _ ?_;have hsr:Plain.jA data lim=Plain.Qy:=by unfold Plain.jA;rw[hlim];rfl
  rw[hsr];have hbl:Below w1.heap.size w1 (rC w1 lim):=(Below.refl _ _).alloc (aY _) _;refine⟨⟨none,0,0,[],rfl,rfl,World.ownsRow_nil _ _ _ _,fun e he=>by cases he⟩,hb1.os,rfl,hb1.output,?_,fun b hb=>?_⟩
  .show w.heap.size<=((rC w1 lim).setRow _ _).heap.size;rw[size_setRow];have:=hbl.size;omega
  .have hb:b<w.heap.size:=hb;show((rC w1 lim).setRow _ _).heap[b]? = _;rw[setRow_other _ _ _ _ (by omega),hbl.block b (by omega)];exact hb1.block b hb
 | _=>exact hq.elim
end
end St
end
section
open Go.Conc
open Cc (tp)
namespace Cc
section
variable {P:Program}{L:List FuncId}{w:World}{Φ:Goroutine->World->Prop}{cs:List Frame}
theorem BW.rest{f:FuncId}{fn:Func}{c:Code}{tmps:Array Value}{p:Frame}{Post:Value->World->Prop}(hP:fO P L)(hf:P.funcs[f]? = some fn)(hc:gU P L c=true)(hC:∀ τ d,c.wp P (bodyPost P fn fun e w'=>∃ v,e=.returned v/\Post v w') {tmps,defers:=[]} (tp w τ d))(hR:∀ v w' τ d,Post v w'->Post v (tp w' τ d))(hn:∀ v w',Post v w'->BW P (G (p.finish v) cs) w' Φ):BW P (G ((base f).at ⟨tmps,[]⟩ [.code c]) (p::cs)) w Φ:=by
 have ht:=DU (f:=f) hP hf hc hC hR;refine BW.tree (cs:=[]) (base:=p::cs) (fr:=F f tmps [.code c]) ht fun fr' w' hok hq=>?_
 obtain⟨g,tm,todo,rfl,hg⟩:=hok;obtain⟨gn,v,hgn,hres,hv,_⟩:=hq w'.drawn;have XK:P.funcs[g]? = some gn:=hgn;refine BW.NC (b:=R g tm todo) (a:=⟨tm,[]⟩) (todo:=todo) rfl rfl XK (fun d=>jX (f:=0) hres w'.tape d) (hn v w' hv)
theorem BW.adJ{g:FuncId}{tm:Array Value}{todo:List Item}{ro:Option Nat}{fn:Func}{c:Frame}{v:Value}(hf:P.funcs[g]? = some fn)(hr:∀ d,(results fn tm).run P (w.at d)=.ok v (w.at d))(h:BW P (G (c.finish v) cs) w Φ):BW P (G ⟨g,tm,todo,[],.returning,.normal,ro⟩ (c::cs)) w Φ:=by
 refine BW.step rfl fun d=>?_
 obtain⟨n,r,es',hres⟩:=dZ (kS (P:=P) fn tm) (w.at d) #[];have hlow:=qR hres.low;have h1:r=.ok v (w.at d):=by
  have:((results fn tm).runT P (w.at d) #[]).1=.ok v (w.at d):=by rw[Sem.runT_fst];exact hr d
  rw[hres.eq] at this;exact this
 subst h1;have hev:(results fn tm).events P (w.at d) #[]=es':=by unfold Sem.events;rw[hres.eq]
 refine⟨_,w.at d,seen P g es',?_,aY _,fM hlow,h.at d⟩;simp[G,stepG,unwind,doReturn,hf,hr d,hev,GStep.after]
end
end Cc
namespace Sr
open Cc (BW)
section
variable {P:Program}{L:FuncId->Bool}{K:Op->Bool}{S:Nat->Prop}{w:World}{Φ:Goroutine->World->Prop}{b:Frame}{a:Act}{k:List Item}{cs:List Frame}
theorem ZN(hK:vB P L K)(hL:∀ f,L f=true->fK P f)(hT:Tk P L K){ops:Array Oper}{i:Nat}{rest:List Nat}{o:Oper}{f:FuncId}{fn:Func}{c:Code}{args:Array Operand}{ats:Array TypeId}(ho:ops[i]? = some o)(hw:Region.wanted o (yielded ops a.tmps)=true)(hk:b.kind≠.early)(hop:o.op=.call {callee:=.value (.func f),args,argTypes:=ats})(hf:P.funcs[f]? = some fn)(hname:(fn.name == "runtime.NumGoroutine")=false)(hb:fn.body=some c){vs:Array Value}(ha:args.map a.eval=vs){t:Array Value}(ht:vs++Array.replicate (fn.ntmps-vs.size) au=t){D:Nat->Prop}(hs:bU P L S D t w)(hi:kg P L K [] c=true){Rr:Value->World->Prop}(hC:∀ τ d,Calls P f vs (tp w τ d) fun e w'=>∃ v,e=.returned v/\Rr v w')(hR:∀ v w' τ d,Rr v w'->Rr v (tp w' τ d))(hn:∀ v w',Rr v w'->BW P (G (b.at (a.put o.dst v) (.inRegion ops rest::k)) cs) w' Φ):BW P (G (b.at a (.inRegion ops (i::rest)::k)) cs) w Φ:=by
 refine Cc.BW.enter ho hw hk hop hf hname hb ha ht fun p hp=>?_
 have henter:Frame.enter P f vs .normal=(base f).at ⟨t,[]⟩ [.code c]:=by
  subst ht;simp[Frame.enter,Frame.at,hf,hb,base]
 have hit:Items P L K [] [.code c]:=by intro x hx;simp at hx;subst hx;exact hi
 have hself:Self P L K true S D (Frame.enter P f vs .normal) [] w:=by
  rw[henter];exact bU.self (a:=⟨t,[]⟩) hs rfl rfl hit
 have htr:=Pw hK hL hT hself hC (fun e w' h=>by obtain⟨v,rfl,_⟩:=h;exact trivial) (fun e w' τ d h=>by obtain⟨v,rfl,h⟩:=h;exact⟨v,rfl,hR v w' τ d h⟩);rw[<-henter];refine aaj (cs:=[]) (base:=p::cs) htr (by rw[henter];exact⟨hit,trivial⟩) fun fr' cs' w' hst=>?_
 obtain⟨⟨rfl,hfn,e,⟨v,rfl,hv⟩,_,hlv⟩,_⟩:=hst w'.tape w'.drawn;obtain⟨hm,hd,hkd,gn,hgn,hres⟩:=hlv;obtain⟨g,tm,todo,defers,mode,kind,ro⟩:=fr';simp only at hm hd hkd hgn hres;subst hm hd hkd;have hv:Rr v w':=hv;have hres:(results gn tm).run P w'=.ok v w':=hres;have hgn:P.funcs[g]? = some gn:=hgn;refine Cc.BW.adJ hgn (fun d=>Cc.jX (f:=0) hres w'.tape d) ?_;rw[hp];exact hn v w' hv
end
end Sr
end
theorem ZK(v n:Int)(w:World)(hT:EZ w)(v0:-9223372036854775808<=v)(v1:v<=9223372036854775807)(n0:-9223372036854775808<=n)(n1:n<=9223372036854775807)(h:(Plain.fA v n).2=0):Calls qp0 70 #[.int .i64 v,.int .i64 n] w (Qb w (Plain.put v n)):=by
 have H1:=ah (uX v n w hT v0 v1 n0 n1);unfold Plain.put;rw[if_pos h];generalize Plain.fA v n=p at *
 obtain⟨p1,p2⟩:=p;obtain rfl:p2=0:=h;clear hT;go_enter func70,ntmps70;go_wp2_with (go_at_call 107;(with_reducible refine(H1.out).mono ?_);rintro e w1 ⟨a1,m1,c1,rfl,hbs,hb,hf⟩)
 go_ret2;exact mI.res ⟨a1,m1,c1,rfl,hbs,hb,hf⟩
theorem BK(h:Hd)(hi:Ol h)(hz:afM h)(hg:rO h=true)(ho8:∀ k,k<7->(Plain.fA (Ct h k) (JI k)).2=0)(w:World)(hT:EZ w):Calls qp0 37 #[.agg (dQ h)] w fun e w'=>e=.returned (.tuple #[.agg (aL (Plain.make h).1),.int .i64 (Plain.make h).2])/\Below w.heap.size w w':=by
 generalize hrr:Plain.make h=r;have Cb:=ah hrr;have HSP:=ah (fun w=>SC h.name w hz.name);have UR:=ah (fun w=>zD h.link 100 w hz.link);have HFU:=ah (fun w=>zD h.user 32 w hz.user);have HFG:=ah (fun w=>zD h.group 32 w hz.group);have hgq:=(Ms h hi).1 hg;have ahv:=ah hgq.2;have HO8:=ah ho8;have hP:=hgq.1;unfold Va at hP;simp only[fE,decide_eq_true_eq] at hP;obtain⟨c0,hL,hU,hG,y0⟩:=hP;rw[hL] at UR;rw[hU] at HFU;rw[hG] at HFG;have t0:((Plain.split h.name).2.2 != 0)=false:=Rf c0;have t1:((h.ty.toNat:Int)==0)=false:=by rw[beq_eq_false_iff_ne];intro e;exact y0 (VL.1 (by simpa using e))
 have Zp:=ah (QK h hi);have HAL:=ah (ZE h hi);have HVI:=ah (XH h hi);have HFK:=ah (mX h hi);have HH:=ah (HM.new w h);have HI:=ah (iL cZ nS);have HO:=ah (sI cZ);have HZ:=ah Bw;have HT:=ah hT;unfold splitV at HSP;clear hrr hi hz hT hgq hL hU hG y0 c0 ho8;go_enter func37,ntmps37;go_upto_region 2 with(first|(with_reducible first|refine dO rfl _ _ rfl (dQ h) rfl ?_|refine bV rfl _ rfl (aL cZ) HZ.out ?_))
 have hR:=HH.out;generalize ((w.alloc (.cells (dQ h) 74)).alloc (.cells (aL cZ) 70)).alloc (.cells (aL cZ) 70)=wa at *
 have HR:=ah hR;clear hR HH;have hx0:wa.cell? ⟨w.heap.size,0,none⟩=some (.string ⟨h.name.toArray⟩):=HR.out.jT 0;go_upto_region 3 with(go_at_call 67;(with_reducible refine(HSP.out _).mono ?_);rintro e w1 ⟨rfl,hb1⟩;have HR1:=ah (HR.out.keep hb1);clear hb1)
 clear hx0 HR HSP;generalize (Plain.split h.name).2.2=c at *
 have hx1:w1.cell? ⟨w.heap.size,1,none⟩=some (.string ⟨h.link.toArray⟩):=HR1.out.jT 1;have hx8:w1.cell? ⟨w.heap.size,8,none⟩=some (.string ⟨h.user.toArray⟩):=HR1.out.jT 8;have RN:w1.cell? ⟨w.heap.size,9,none⟩=some (.string ⟨h.group.toArray⟩):=HR1.out.jT 9;have hx7:w1.cell? ⟨w.heap.size,7,none⟩=some (.int .u8 (h.ty.toNat:Int)):=HR1.out.jT 7;go_upto_if 44 with(go_at_call 68;first|((with_reducible refine(UR.out _).mono ?_);rintro e w2 ⟨rfl,hw2⟩;obtain rfl:=hw2)|((with_reducible refine(HFU.out _).mono ?_);rintro e w2 ⟨rfl,hw2⟩;obtain rfl:=hw2)|((with_reducible refine(HFG.out _).mono ?_);rintro e w2 ⟨rfl,hw2⟩;obtain rfl:=hw2));clear hx1 hx8 RN hx7 UR HFU HFG t0 t1;have hx2:w1.cell? ⟨w.heap.size,2,none⟩=some (.int .i64 h.mode):=HR1.out.jT 2;have hx3:w1.cell? ⟨w.heap.size,3,none⟩=some (.int .i64 h.uid):=HR1.out.jT 3;have hx4:w1.cell? ⟨w.heap.size,4,none⟩=some (.int .i64 h.gid):=HR1.out.jT 4;have hx5:w1.cell? ⟨w.heap.size,5,none⟩=some (.int .i64 h.size):=HR1.out.jT 5;have hx6:w1.cell? ⟨w.heap.size,6,none⟩=some (.int .i64 h.mtime):=HR1.out.jT 6;have TA:w1.cell? ⟨w.heap.size,10,none⟩=some (.int .i64 h.major):=HR1.out.jT 10;have ahb:w1.cell? ⟨w.heap.size,11,none⟩=some (.int .i64 h.minor):=HR1.out.jT 11
 have hb:=(Below.refl w1.heap.size w1).alloc (aY _) (.cells #[.int .i64 h.mode,.int .i64 h.uid,.int .i64 h.gid,.int .i64 h.size,.int .i64 h.mtime,.int .i64 h.major,.int .i64 h.minor] 130);have hv:HV w h cZ w1.heap.size (ZV h) (w1.alloc (.cells #[.int .i64 h.mode,.int .i64 h.uid,.int .i64 h.gid,.int .i64 h.size,.int .i64 h.mtime,.int .i64 h.major,.int .i64 h.minor] 130)):=⟨HR1.out.keep hb,HR1.out.lt,heap_alloc_new w1 _⟩;have HV0:=ah hv;clear hb hv;go_upto_region 6 with fail
 generalize w1.alloc (.cells #[.int .i64 h.mode,.int .i64 h.uid,.int .i64 h.gid,.int .i64 h.size,.int .i64 h.mtime,.int .i64 h.major,.int .i64 h.minor] 130)=wd at *
 generalize w1.heap.size=gv at *
 clear hx2 hx3 hx4 hx5 hx6 TA ahb HR1;have aeF:=abt h;have hvl:(ZV h).length=7:=rfl;generalize ZV h=VS at *
 have HVA:=ah aeF;have OI:=ah hvl;clear aeF hvl;go_wp2_with (go_at_call 69;(with_reducible refine(Cx _).mono ?_);rintro e w5 ⟨rfl,hb5⟩;have HV1:=ah (HV0.out.keep hb5);clear hb5)
 have U0:=ah (fun k hk w=>xw k hk w);generalize nW=FA at *
 clear HV0;go_loopw [62] (fun i wr=>∃ k:Nat,k<=7/\i=.int .i64 k/\Hid (∀ j,j<k->Cu h j=true)/\Hid (HV w h (MZ h k) gv VS wr)) (fun i _=>7-(intOf i).toNat)
 case atStart=>exact⟨0,by decide,rfl,ah (fun j hj=>absurd hj (qbq j)),HV1⟩
 case round =>
  clear HV1;obtain⟨k,hk,rfl,hok,hX⟩:=hrel;by_cases hlt:k<7
  .as_aux_lemma =>
    have hki:(k:Int)<7:=by omega
    have hbl:=Zp.out k (by omega) hok.out;have hvi:=(gM (Ct h k)).1 (HVI.out k);have hcv:=HVA.out k hlt;have hfd:=qm k hlt;have ahf:=Om k hlt;have hok1:=ahv.out k hlt;have ho1:=HO8.out k hlt;have hfo:Cu h k=decide ((Plain.put (Ct h k) (JI k)).2=0/\(fieldAt k).2.2.1<=Ct h k/\Ct h k<=(fieldAt k).2.2.2):=rfl;have hfl:=HFK.out k hlt;have hnx:MZ h (k+1)=lay (MZ h k) (fieldAt k).1 (Plain.put (Ct h k) (JI k)).1:=rfl;have hwk:JI k=((fieldAt k).2.1:Int)-((fieldAt k).1:Int):=rfl;have HW1:=U0.out k hlt;unfold Cj at HW1;generalize hfk:Cu h k=FK at *
    generalize hmn:MZ h (k+1)=MN at *
    generalize MZ h k=M at *
    generalize Ct h k=v at *
    generalize JI k=N at *
    generalize fieldAt k=f at *
    obtain⟨s,e,lo,hi⟩:=f;simp only at hfd ahf hfo hfl hnx hwk HW1;have aht:Hid (∀ w,(Instr.index 133 (.agg FA) (.int .i64 (k:Int))).run qp0 w=.ok (.agg #[.int .i64 (s:Int),.int .i64 (e:Int),.int .i64 lo,.int .i64 hi]) w):=HW1;have afD:=ah (fun w h=>ZK v N w h hvi.1 (by omega) (by omega) (by omega) ho1);clear ho1;generalize Plain.put v N=q at *
    obtain⟨t,code⟩:=q;simp only at hfo hfl hnx;have hX8:=hX.out.keep ((Below.refl _ _).alloc (aY _) (.cells #[.int .i64 (s:Int),.int .i64 (e:Int),.int .i64 lo,.int .i64 hi] 132));have UK:=ah hX8;have hrf:(wr.alloc (.cells #[.int .i64 (s:Int),.int .i64 (e:Int),.int .i64 lo,.int .i64 hi] 132)).heap[wr.heap.size]? = some (.cells #[.int .i64 (s:Int),.int .i64 (e:Int),.int .i64 lo,.int .i64 hi] 132 (0,0)):=heap_alloc_new wr _;have HRF:=ah hrf;obtain⟨hse,he5,hs5⟩:=hfd;have agF:=ah hbl;have HCV:=ah hcv;have HFO:=ah hfo;have UR:=ah hfl;have HNX:=ah hnx;have HKF:=ah hfk;have HMN:=ah hmn;clear hbl hcv hfo hfl hnx HW1 hX8 hrf hfk hmn U0 HFK HVI HVA Zp;go_upto_region 9 with(refine je (vy:=.agg FA) (vx:=.int .i64 (k:Int)) rfl 133 (.tmp 61) (.tmp 62) rfl rfl rfl (.agg #[.int .i64 (s:Int),.int .i64 (e:Int),.int .i64 lo,.int .i64 hi]) (aht.out _) ?_)
    generalize wr.alloc (.cells #[.int .i64 (s:Int),.int .i64 (e:Int),.int .i64 lo,.int .i64 hi] 132)=wq at *
    generalize wr.heap.size=gf at *
    have hcv:wq.cell? ⟨gv,k,none⟩=some (.int .i64 v):=by rw[UK.out.cell k (by rw[OI.out];exact hlt),HCV.out]
    have hc0:wq.cell? ⟨gf,0,none⟩=some (.int .i64 (s:Int)):=by rw[cell_of_row _ _ _ _ _ _ HRF.out];rfl
    have hc1:wq.cell? ⟨gf,1,none⟩=some (.int .i64 (e:Int)):=by rw[cell_of_row _ _ _ _ _ _ HRF.out];rfl
    have HD:=ah (And.intro hcv (And.intro hc1 hc0));have hwr:IntKind.i64.wrap ((e:Int)-(s:Int))=N:=by rw[hwk];exact IntWalk.i64_in _ (by omega)
    have hk0:(0:Int)<=(k:Int):=by omega
    clear hX hwk hcv hc0 hc1;go_region_held3 (fun w'=>w'.cell? ⟨gv,k,none⟩=some (.int .i64 v)/\w'.cell? ⟨gf,1,none⟩=some (.int .i64 (e:Int))/\w'.cell? ⟨gf,0,none⟩=some (.int .i64 (s:Int))) (first|exact HD.out|exact HD7.out) (first|(go_at_call 70;(with_reducible refine(afD.out _ (by exact(HT.out.below UK.out.hm.bJ).below ((Below.refl _ _).drew))).mono ?_);rintro e7 w7 ⟨a7,n7,c7,rfl,hs7,mq⟩;have hd7:=Below.seq ((Below.refl wq.heap.size wq).drew) mq;have GY:=ah (UK.out.keep hd7);have HS7:=ah hs7;have HD7:=ah (And.intro (Below.keeps hd7 _ _ HD.out.1) (And.intro (Below.keeps hd7 _ _ HD.out.2.1) (Below.keeps hd7 _ _ HD.out.2.2)));have acB:Hid (w7.heap[gf]? = some (.cells #[.int .i64 (s:Int),.int .i64 (e:Int),.int .i64 lo,.int .i64 hi] 132 (0,0))):=ah (by rw[hd7.block _ (fT.1 HRF.out).1];exact HRF.out);clear hs7 mq hd7))
    clear hwr afD HD UK HRF;have hcv:w7.cell? ⟨gv,k,none⟩=some (.int .i64 v):=HD7.out.1;have hc0:w7.cell? ⟨gf,0,none⟩=some (.int .i64 (s:Int)):=HD7.out.2.2;have hc1:w7.cell? ⟨gf,1,none⟩=some (.int .i64 (e:Int)):=HD7.out.2.1;have hc2:w7.cell? ⟨gf,2,none⟩=some (.int .i64 lo):=by rw[cell_of_row _ _ _ _ _ _ acB.out];rfl
    have hc3:w7.cell? ⟨gf,3,none⟩=some (.int .i64 hi):=by rw[cell_of_row _ _ _ _ _ _ acB.out];rfl
    have HXQ:Hid (∀ n,HV w h M gv VS (w7.drewN n)):=ah (fun n=>GY.out.keep (Below.drewN (Below.refl _ _) n));have HSQ:Hid (∀ n,Bs (w7.drewN n) a7 n7 c7 t):=ah (fun n=>Below.bs (Below.drewN (Below.refl w7.heap.size w7) n) HS7.out);clear HD7 acB GY;obtain⟨g1,g2,g3⟩:=of_decide_eq_true (HFO.out.symm.trans hok1);have hfk:FK=true:=by rw[HFO.out];exact uQ ⟨g1,g2,g3⟩
    have hl:=UR.out hfk;have hok2:∀ j,j<k+1->Cu h j=true:=fun j hj=>by
     by_cases ej:j=k
     .subst ej;rw[HKF.out];exact hfk
     .exact hok.out j (by omega)
    have ads:=ah hok2;have d1:(code != 0)=false:=Rf g1;have d2:¬ v<lo:=by omega
    have d3:¬ hi<v:=by omega
    have hn7:n7=e-s:=by rw[<-HS7.out.len];exact hl
    have hpos:0<e-s:=by omega
    have HN7:=ah hn7;clear hok2 hfk hl HFO UR hn7 HS7;have h12:(s:Int)<=e:=by omega
    have h13:(e:Int)<=512:=by omega
    go_wp2_with fail
    go_quiet (fail)
    go_wp2_with (first|(with_reducible refine bA rfl _ _ _ _ rfl underlying70 (by kernel_rfl) (w.heap.size+2) rfl s e .i64 .i64 rfl rfl hse (by omega) (by omega) ?_)|((with_reducible refine qV rfl _ _ 22 22 rfl 5 underlying22 (by kernel_rfl) (w.heap.size+2) s _ _ rfl rfl M t (HXQ.out _).hm.rb (HSQ.out _) (by rw[HN7.out];exact hpos) (by rw[HN7.out];exact aY _) (by rw[HN7.out,agF.out];omega) ?_);rw[afN HNX.out (HSQ.out 0).len]))
    go_round
    case rel=>exact⟨k+1,by omega,by go_num,ads,ah (by rw[HMN.out];exact(HXQ.out _).row MN)⟩
    case measure=>simp[intOf];omega
  .obtain rfl:k=7:=by omega
   as_aux_lemma =>
    have hki:¬ (7:Int)<7:=by omega
    have hgd:rO h=true:=hg;have hall:=HAL.out hgd;have hr:r=(Plain.seal (oZ h),0):=by rw[<-Cb.out];exact UD h hgd
    have hlen:=Zp.out 7 (by decide) hok.out;have hpt:=S9 h hgd;obtain⟨q1,q2,q3,q4,q5⟩:=hpt;unfold adE at hall;have hsl:(oZ h).length=512:=by
     rw[<-hall];have l1:(lay (MZ h 7) 0 (Plain.split h.name).2.1).length=512:=by rw[gF _ _ _ (by omega),hlen]
     have l2:(lay (lay (MZ h 7) 0 (Plain.split h.name).2.1) 156 [h.ty]).length=512:=by rw[gF _ _ _ (by rw[l1];simp),l1]
     have l3:(lay (lay (lay (MZ h 7) 0 (Plain.split h.name).2.1) 156 [h.ty]) 157 h.link).length=512:=by rw[gF _ _ _ (by omega),l2]
     have l4:(lay (lay (lay (lay (MZ h 7) 0 (Plain.split h.name).2.1) 156 [h.ty]) 157 h.link) 257 dB).length=512:=by rw[gF _ _ _ (by rw[l3];decide),l3]
     have l5:(lay (lay (lay (lay (lay (MZ h 7) 0 (Plain.split h.name).2.1) 156 [h.ty]) 157 h.link) 257 dB) 265 h.user).length=512:=by rw[gF _ _ _ (by omega),l4]
     have l6:(lay (lay (lay (lay (lay (lay (MZ h 7) 0 (Plain.split h.name).2.1) 156 [h.ty]) 157 h.link) 257 dB) 265 h.user) 297 h.group).length=512:=by rw[gF _ _ _ (by omega),l5]
     rw[gF _ _ _ (by omega),l6]
    have afF:=ah (fun w hT=>YW (oZ h) hsl w hT);have HIS:=ah (iL (Plain.seal (oZ h)) (DY _ hsl));have HOS:=ah (sI (Plain.seal (oZ h)));have HSS:Hid ((aL cZ).size=(aL (Plain.seal (oZ h))).size):=by show _=_;rw[eZ,eZ,nS,DY _ hsl]
    have HIB:=ah (iL (oZ h) hsl);generalize Plain.seal (oZ h)=SB at *
    generalize oZ h=BO at *
    generalize MZ h 7=M0 at *
    generalize (Plain.split h.name).2.1=ps at *
    generalize (Plain.split h.name).1=pp at *
    obtain⟨M1,hM1⟩:∃ M,M=lay M0 0 ps:=⟨_,rfl⟩
    obtain⟨M2,hM2⟩:∃ M,M=lay M1 156 [h.ty]:=⟨_,rfl⟩
    obtain⟨M3,hM3⟩:∃ M,M=lay M2 157 h.link:=⟨_,rfl⟩
    obtain⟨M4,hM4⟩:∃ M,M=lay M3 257 dB:=⟨_,rfl⟩
    obtain⟨M5,hM5⟩:∃ M,M=lay M4 265 h.user:=⟨_,rfl⟩
    obtain⟨M6,hM6⟩:∃ M,M=lay M5 297 h.group:=⟨_,rfl⟩
    rw[<-hM1,<-hM2,<-hM3,<-hM4,<-hM5,<-hM6] at hall;have l1:M1.length=512:=by rw[hM1,gF _ _ _ (by omega),hlen]
    have l2:M2.length=512:=by rw[hM2,gF _ _ _ (by rw[l1];simp),l1]
    have l3:M3.length=512:=by rw[hM3,gF _ _ _ (by omega),l2]
    have l4:M4.length=512:=by rw[hM4,gF _ _ _ (by rw[l3];decide),l3]
    have l5:M5.length=512:=by rw[hM5,gF _ _ _ (by omega),l4]
    have l6:M6.length=512:=by rw[hM6,gF _ _ _ (by omega),l5]
    have hset:M1.set 156 h.ty=M2:=by rw[hM2,ZX _ _ _ (by rw[l1];decide)]
    have HM1:=ah hM1;have HM3:=ah hM3;have HM4:=ah hM4;have HM5:=ah hM5;have HM6:=ah hM6;have KA:=ah hall;have acT:=ah hset;have HRR:=ah hr;have L0:=ah hlen;have L1:=ah l1;have L2:=ah l2;have L3:=ah l3;have L4:=ah l4;have L5:=ah l5;have L6:=ah l6;have Q1:=ah q1;have Q2:=ah q2;have Q3:=ah q3;have Q4:=ah q4;have Q5:=ah q5;have HX0:=ah hX.out.hm;have hwr:=HX0.out.bJ;clear hgd hall hr hlen hM1 hM2 hM3 hM4 hM5 hM6 l1 l2 l3 l4 l5 l6 hset q1 q2 q3 q4 q5 hsl hX Zp HAL HVI HFK  Cb U0 HVA OI hok hk hlt HI HO hwr;go_upto_region 15 with(first|(with_reducible refine bA rfl _ _ _ _ rfl underlying70 (by kernel_rfl) (w.heap.size+2) rfl 0 512 .i64 .i64 rfl rfl (by decide) (by decide) (by decide) ?_)|((with_reducible refine jr rfl _ _ 22 9 rfl 5 underlying22 (by kernel_rfl) (w.heap.size+2) 0 _ _ rfl M0 ps rfl HX0.out.rb (by have:=Q1.out;omega) (by rw[L0.out];have:=Q1.out;omega) ?_);intro w20 aeN;have Ta:=ah (by have hh:=HX0.out.row M1;rw[HM1.out,<-aeN,<-HM1.out] at hh;exact hh:HM w h M1 w20);clear aeN))
    clear HX0;have hx7:w20.cell? ⟨w.heap.size,7,none⟩=some (.int .u8 (h.ty.toNat:Int)):=Ta.out.jT 7;have hxb:=Ta.out.afs 156 (by rw[L1.out];decide);have hfb:=Ta.out.afj 156;have hX2:=Ta.out.set 156 h.ty
    rw[acT.out] at hX2;have HX2:=ah hX2;clear hX2;go_upto_region 16 with fail
    generalize w20.setCell ⟨w.heap.size+2,156,none⟩ (.int .u8 (h.ty.toNat:Int))=w21 at *
    clear hx7 hxb hfb Ta;have Vg:=HX2.out.keep ((Below.refl _ _).drew);have HDR:=ah Vg;have HLD:Hid (w21.drew.cell? ⟨w.heap.size,1,none⟩=some (.string ⟨h.link.toArray⟩)):=ah (Vg.jT 1);have hs1:=fun wx=>bY (P:=qp0) 70 underlying70 (by kernel_rfl) (w.heap.size+2) (some 157) none 157 512 rfl rfl (by decide) (by decide) (by decide) wx
    simp only[Option.map] at hs1;clear Vg;go_region_held3 (fun w'=>w'.cell? ⟨w.heap.size,1,none⟩=some (.string ⟨h.link.toArray⟩)) (first|exact HLD.out|exact HLE.out) (first|(refine kR (by rfl) _ _ 22 9 (by rfl) 5 underlying22 (by kernel_rfl) (w.heap.size+2) 157 _ _ (by rfl) M2 h.link (by rfl) (by exact HDR.out.rb) (by have:=Q2.out;omega) (by rw[L2.out];have:=Q2.out;omega) ?_;intro w22 hw_;have HX3:=ah (by have hh:=HDR.out.row M3;rw[HM3.out,<-hw_,<-HM3.out] at hh;exact hh:HM w h M3 w22);have HLE:Hid (w22.cell? ⟨w.heap.size,1,none⟩=some (.string ⟨h.link.toArray⟩)):=ah (HX3.out.jT 1);clear hw_))
    clear hs1 HDR HLD HLE HX2;go_upto_region 18 with(first|(with_reducible refine bA rfl _ _ _ _ rfl underlying70 (by kernel_rfl) (w.heap.size+2) rfl 257 512 .i64 .i64 rfl rfl (by decide) (by decide) (by decide) ?_)|((with_reducible refine jr rfl _ _ 22 9 rfl 5 underlying22 (by kernel_rfl) (w.heap.size+2) 257 _ _ rfl M3 dB rfl HX3.out.rb (by decide) (by rw[L3.out];decide) ?_);intro Zn afc;have HX4:=ah (by have hh:=HX3.out.row M4;rw[HM4.out,<-afc,<-HM4.out] at hh;exact hh:HM w h M4 Zn);clear afc))
    clear HX3;have Vg:=HX4.out.keep ((Below.refl _ _).drew);have HDR:=ah Vg;have HLD:Hid (Zn.drew.cell? ⟨w.heap.size,8,none⟩=some (.string ⟨h.user.toArray⟩)):=ah (Vg.jT 8);have hs1:=fun wx=>bY (P:=qp0) 70 underlying70 (by kernel_rfl) (w.heap.size+2) (some 265) none 265 512 rfl rfl (by decide) (by decide) (by decide) wx
    simp only[Option.map] at hs1;clear Vg;go_region_held3 (fun w'=>w'.cell? ⟨w.heap.size,8,none⟩=some (.string ⟨h.user.toArray⟩)) (first|exact HLD.out|exact HLE.out) (first|(refine kR (by rfl) _ _ 22 9 (by rfl) 5 underlying22 (by kernel_rfl) (w.heap.size+2) 265 _ _ (by rfl) M4 h.user (by rfl) (by exact HDR.out.rb) (by have:=Q3.out;omega) (by rw[L4.out];have:=Q3.out;omega) ?_;intro w24 hw_;have HX5:=ah (by have hh:=HDR.out.row M5;rw[HM5.out,<-hw_,<-HM5.out] at hh;exact hh:HM w h M5 w24);have HLE:Hid (w24.cell? ⟨w.heap.size,8,none⟩=some (.string ⟨h.user.toArray⟩)):=ah (HX5.out.jT 8);clear hw_))
    clear hs1 HDR HLD HLE HX4;go_upto_region 19 with fail
    have Vg:=HX5.out.keep ((Below.refl _ _).drew);have HDR:=ah Vg;have HLD:Hid (w24.drew.cell? ⟨w.heap.size,9,none⟩=some (.string ⟨h.group.toArray⟩)):=ah (Vg.jT 9);have hs1:=fun wx=>bY (P:=qp0) 70 underlying70 (by kernel_rfl) (w.heap.size+2) (some 297) none 297 512 rfl rfl (by decide) (by decide) (by decide) wx
    simp only[Option.map] at hs1;clear Vg;go_region_held3 (fun w'=>w'.cell? ⟨w.heap.size,9,none⟩=some (.string ⟨h.group.toArray⟩)) (first|exact HLD.out|exact HLE.out) (first|(refine kR (by rfl) _ _ 22 9 (by rfl) 5 underlying22 (by kernel_rfl) (w.heap.size+2) 297 _ _ (by rfl) M5 h.group (by rfl) (by exact HDR.out.rb) (by have:=Q4.out;omega) (by rw[L5.out];have:=Q4.out;omega) ?_;intro w25 hw_;have HX6:=ah (by have hh:=HDR.out.row M6;rw[HM6.out,<-hw_,<-HM6.out] at hh;exact hh:HM w h M6 w25);have HLE:Hid (w25.cell? ⟨w.heap.size,9,none⟩=some (.string ⟨h.group.toArray⟩)):=ah (HX6.out.jT 9);clear hw_))
    clear hs1 HDR HLD HLE HX5;go_upto_region 21 with(first|(with_reducible refine bA rfl _ _ _ _ rfl underlying70 (by kernel_rfl) (w.heap.size+2) rfl 345 512 .i64 .i64 rfl rfl (by decide) (by decide) (by decide) ?_)|((with_reducible refine jr rfl _ _ 22 9 rfl 5 underlying22 (by kernel_rfl) (w.heap.size+2) 345 _ _ rfl M6 pp rfl HX6.out.rb (by have:=Q5.out;omega) (by rw[L6.out];have:=Q5.out;omega) ?_);intro w26 afr;have GY:=ah (by have hh:=HX6.out.row BO;rw[<-KA.out,<-afr,KA.out] at hh;exact hh:HM w h BO w26);clear afr))
    clear HX6;go_wp2_with (first|(with_reducible refine wpList_load_row rfl _ _ rfl (w.heap.size+2) rfl 70 (aL BO) (0,0) _ GY.out.rb underlying70 rfl HIB.out ?_)|(go_at_call 71;(refine(afF.out w26 (by exact HT.out.below GY.out.bJ)).mono ?_);rintro e w27 ⟨rfl,aeX⟩;have UK:=ah (GY.out.keep aeX);clear aeX)|(with_reducible refine wpList_store_row rfl 70 _ _ rfl (w.heap.size+1) rfl (aL SB) rfl (aL cZ) 70 UK.out.rr HSS.out HIS.out HOS.out ?_))
    exact bodyPost_ret (results_cell_tmp rfl _ _ (w.heap.size+1) 70 (aL SB) (0,0) _ _ rfl rfl (setRow_heap _ _ _ _ _ _ UK.out.rr) underlying70 rfl HIS.out) rfl ⟨by rw[HRR.out];rfl,Below.setRow UK.out.bJ (by omega) _⟩
def IsB(u:Value):Prop:=∃ x:UInt8,u=jJ x
def ZB(w:World)(v:Value):Prop:=∀ g,v.ownBlock=some g->∃ cs,w.heap[g]? = some (.cells cs 5 (0,0))/\∀ u∈cs.toList,IsB u
structure kF(w:World)(base:Nat)(v:Value)(n:Nat)(l:List UInt8):Prop where
 own:w.ownsRow base 5 1 v n (l.map jJ)
 cl:ZB w v
theorem xQ(l:List UInt8):∀ u∈l.map jJ,IsB u:=fun u hu=>by
 obtain⟨x,_,rfl⟩:=ZW.1 hu;exact⟨x,rfl⟩
theorem mZ(k:Nat):∀ u∈(Builtin.zeroCells (Value.int .u8 0).cells k).toList,IsB u:=fun u hu=>by
 unfold Builtin.zeroCells at hu;have hu:u∈(Array.range (k*1)).map fun i=>(#[Value.int .u8 0]:Array Value)[i%1]!:=by simpa[Value.cells] using hu
 rw[Array.mem_map] at hu;obtain⟨i,_,rfl⟩:=hu;refine⟨0,?_⟩;rw[Nat.mod_one];rfl
theorem kF.kept{w w':World}{base:Nat}{v:Value}{n:Nat}{l:List UInt8}(h:kF w base v n l)(hb:∀ b,v.ownBlock=some b->w'.heap[b]? = w.heap[b]?):kF w' base v n l:=by
 refine⟨?_,fun g hg=>?_⟩
 .obtain⟨h1,h2⟩:=h.own;refine⟨h1,?_⟩;rcases h2 with h2|⟨g,cap,cur,hv,hg,hh,r⟩
  .exact Or.inl h2
  .exact Or.inr ⟨g,cap,cur,hv,hg,(hb g (by rw[hv];rfl)).trans hh,r⟩
 .obtain⟨cs,h1,h2⟩:=h.cl g hg;exact⟨cs,(hb g hg).trans h1,h2⟩
theorem kF.alloc{w:World}{base:Nat}{v:Value}{n:Nat}{l:List UInt8}(h:kF w base v n l)(o:Obj):kF (w.alloc o) base v n l:=h.kept fun b hb=>by
 have hlt:=(h.own.lt b hb).2;show(w.heap.push o)[b]? = _;rw[Qi,if_neg (by omega)]
theorem Dw:∃ i,qp0.info? 5=some i/\i.zero=some (.int .u8 0)/\i.size=1/\i.bytes=1:=info_parts V6
theorem YZ{w:World}(ty:TypeId){base:Nat}{a1:Option Addr}{n c1:Nat}{l:List UInt8}(h:kF w base (.slice a1 n c1) n l){ad:Addr}{m c2:Nat}{l2:List UInt8}(hl:l2.length=m)(hnews:∀ j u,(l2.map jJ)[j]? = some u->w.cell? (ad.add j)=some u)(hb:n+m<=140737488355328)(hbase:base<=w.heap.size):∃ a' c' w',(Builtin.append_ #[22,22] ty #[.slice a1 n c1,.slice (some ad) m c2]).run qp0 w=.ok (.slice a' (n+m) c') w'/\kF w' base (.slice a' (n+m) c') (n+m) (l++l2)/\w.grownBy w' (Value.slice a1 n c1).ownBlock:=by
 obtain⟨i,hi',hz0,hz1,hz2⟩:=Dw;have hl':(l2.map jJ).length=m*1:=by rw[V7,hl,qbK]
 have h1:∀ u∈l2.map jJ,u.oneCell'=true:=kY l2
 have hn:=Bh h.own;obtain⟨v',w',hr,h2,h3⟩:=run_append_own (P:=qp0) w base 22 ty 5 i (.int .u8 0) 1 1 underlying22 hi' hz0 hz1 hz2 rfl (by decide) _ n (l.map jJ) h.own ad m c2 (l2.map jJ) hl' hnews h1 (by unfold maxLen;omega) (by omega) hbase;obtain⟨a',c',rfl⟩:=yT h2;rw[<-qbH] at h2;refine⟨a',c',w',hr,⟨h2,?_⟩,h3.1⟩;have hown2:=h.own.2;rcases hown2 with⟨he,hn0⟩|⟨g0,cap,cur,he,hbg,hgc,hnc,hcm,hcs,htake⟩
 .cases he
  by_cases hm:m=0
  .have:=h3.2.2 ⟨rfl,hm⟩;intro g hg;rw[this] at hg;cases hg
  .have k:=run_append_nil (P:=qp0) (w:=w) 22 ty 5 i (.int .u8 0) underlying22 hi' hz0 ad m c2 (l2.map jJ) (by rw[hz1];exact hl') hnews (by omega) (by omega) (by rw[hz2];omega);rw[hr] at k;simp only[Result.ok.injEq,Value.slice.injEq,lU,true_and] at k;obtain⟨⟨rfl,rfl⟩,rfl⟩:=k;intro g hg
   cases hg
   refine⟨_,heap_alloc_new w.drew _,fun u hu=>?_⟩;simp only[qbx,UY] at hu;rcases hu with hu|hu
   .exact xQ l2 u (by simpa using hu)
   .exact mZ _ u hu
 .cases he
  obtain⟨cs,hcs1,hcs2⟩:=h.cl g0 rfl;rw[hgc] at hcs1
  cases hcs1
  by_cases hroom:n+m<=c1
  .have k:=run_append_room (P:=qp0) w 22 ty 5 i underlying22 hi' g0 n c1 cur hgc ad m c2 (l2.map jJ) (by rw[hz1];exact hl') hnews h1 hroom (by rw[hz1,hl',hcs,qbK];omega);rw[hr] at k;simp only[Result.ok.injEq,Value.slice.injEq,true_and] at k;obtain⟨⟨rfl,rfl⟩,rfl⟩:=k;intro g hg
   cases hg
   refine⟨_,setRow_heap _ _ _ _ _ _ hgc,fun u hu=>?_⟩;simp only[UY] at hu;rcases hu with(hu|hu)|hu
   .exact hcs2 u (qbY hu)
   .exact xQ l2 u hu
   .exact hcs2 u (List.mem_of_mem_drop hu)
  .have holds:∀ j u,(l.map jJ)[j]? = some u->w.cell? ((⟨g0,0,none⟩:Addr).add j)=some u:=h.own.cells (g:=g0) rfl
   have k:=run_append_grow (P:=qp0) w 22 ty 5 i (.int .u8 0) underlying22 hi' hz0 ⟨g0,0,none⟩ n c1 (l.map jJ) (by rw[hz1];exact h.own.1) holds ad m c2 (l2.map jJ) (by rw[hz1];exact hl') hnews (by omega) (by omega) (growslice_fits (by omega) (by rw[hz2];omega));rw[hr] at k;simp only[Result.ok.injEq,Value.slice.injEq,true_and] at k;obtain⟨⟨rfl,rfl⟩,rfl⟩:=k;intro g hg
   cases hg
   refine⟨_,heap_alloc_new w.drew _,fun u hu=>?_⟩;simp only[qbx,UY] at hu;rcases hu with(hu|hu)|hu
   .exact xQ l u (by simpa using hu)
   .exact xQ l2 u (by simpa using hu)
   .exact mZ _ u hu
theorem zR(k:Nat):(Builtin.zeroCells (Value.int .u8 0).cells k).toList=(List.replicate k (0:UInt8)).map jJ:=by
 unfold Builtin.zeroCells;have e:(Value.int .u8 0).cells=#[Value.int .u8 0]:=rfl;rw[e];refine List.ext_getElem? fun i=>?_
 by_cases hi:i<k
 .simp[hi,Nat.mod_one,jJ]
 .simp[hi]
theorem GH{w:World}(ty tn:TypeId)(htn:∃ kn,qp0.underlying tn=some (.int kn)){base:Nat}{A:Addr}{n c1:Nat}{l:List UInt8}(h:kF w base (.slice (some A) n c1) n l){m:Nat}(hm0:0<m)(hb:n+m<=140737488355328)(hbase:base<=w.heap.size):∃ a' c' w',(Builtin.append_ #[22,tn] ty #[.slice (some A) n c1,.int .i64 m]).run qp0 w=.ok (.slice (some a') (n+m) c') w'/\kF w' base (.slice (some a') (n+m) c') (n+m) (l++List.replicate m 0)/\w.grownBy w' (Value.slice (some A) n c1).ownBlock:=by
 obtain⟨i,hi',hz0,hz1,hz2⟩:=Dw;obtain⟨kn,htn⟩:=htn;have hn:=Bh h.own;have hmn:m≠0:=by omega
 have hw:IntKind.i64.wrap (m:Int)=m:=by rw[IntKind.wrap_i64];omega
 have hneg:¬ ((m:Int)<0):=by omega
 have h48:¬ (281474976710656<(m:Int)):=by omega
 have hzl:=zR m;have hzs:(Builtin.zeroCells (Value.int .u8 0).cells m).size=m:=by rw[<-U5,hzl];simp
 have ht:=underlying22;have hlen:((l++List.replicate m 0).map jJ).length=(n+m)*1:=by simp[hn]
 have afR:∀ u∈(Builtin.zeroCells (Value.int .u8 0).cells m).toList,u.oneCell'=true:=fun u hu=>by obtain⟨x,rfl⟩:=mZ m u hu;rfl
 rcases h.own.2 with⟨he,hn0⟩|⟨g0,cap,cur,he,hbg,hgc,hnc,hcm,hcs,htake⟩
 .cases he
 .cases he
  obtain⟨cs,hcs1,hcs2⟩:=h.cl g0 rfl;rw[hgc] at hcs1
  cases hcs1
  rw[qbK] at hcs htake;have hcur:cur.toList.take n=l.map jJ:=htake;by_cases hroom:n+m<=c1
  .have hst:=run_storeCells_at qp0 g0 (n*1) 5 (Builtin.zeroCells (Value.int .u8 0).cells m).toList 0 cur w hgc (by rw[hzl];simp;omega) afR;simp only[R4,qbK] at hst;refine⟨_,_,w.setRow g0 (cur.toList.take n++(Builtin.zeroCells (Value.int .u8 0).cells m).toList++cur.toList.drop (n+(Builtin.zeroCells (Value.int .u8 0).cells m).toList.length)).toArray,?_,⟨⟨hlen,.inr ⟨g0,c1,_,rfl,hbg,setRow_heap w g0 cur _ _ _ hgc,hroom,hcm,?_,?_⟩⟩,fun g hg=>?_⟩,⟨rfl,rfl,rfl,by simp,fun k _ hk=>setRow_other w g0 k _ (fun e=>hk (by simp[Value.ownBlock,e]))⟩⟩
   .simp[Builtin.append_,run_underlying ht,run_underlying htn,sizeOf,typeInfo,zeroValue,hi',hz0,hz1,hz2,asInt,asIntOf,hw,hneg,h48,hmn,hroom,Addr.add_lit,hst]
   .simp only[rJ,vG,zQ,zW,U5,hzs];omega
   .simp only[qbK];rw[hcur,hzl,<-qbH];have e2:n+m=((l++List.replicate m 0).map jJ).length:=by rw[hlen,qbK]
    rw[e2];exact List.take_left
   .cases hg
    refine⟨_,setRow_heap _ _ _ _ _ _ hgc,fun u hu=>?_⟩;simp only[UY] at hu;rcases hu with(hu|hu)|hu
    .exact hcs2 u (qbY hu)
    .exact mZ m u hu
    .exact hcs2 u (List.mem_of_mem_drop hu)
  .have holds:∀ j u,(l.map jJ)[j]? = some u->w.cell? ((⟨g0,0,none⟩:Addr).add j)=some u:=h.own.cells (g:=g0) rfl
   have h63':¬ (9223372036854775807<((n:Int)+(m:Int))):=by omega
   have hnx:=growslice_fits (need:=n+m) (old:=c1) (bytes:=1) (by omega) (by omega);have h48':¬ (281474976710656<Builtin.nextslicecap (n+m) c1):=by omega
   have hfo:=run_firstCells_some (P:=qp0) w.drew 1 n ⟨g0,0,none⟩ n c1 (l.map jJ) (by simp[hn]) (by simpa using holds);have hge:=grownCap_ge w (n+m) c1 5;have hcm2:=grownCap_le_maxLen w (n+m) c1 5 (by unfold maxLen;omega);refine⟨_,_,w.drew.alloc (.cells ((l.map jJ).toArray++Builtin.zeroCells (Value.int .u8 0).cells m++Builtin.zeroCells (Value.int .u8 0).cells (grownCap w (n+m) c1 5-(n+m))) 5),?_,⟨⟨hlen,.inr ⟨w.heap.size,grownCap w (n+m) c1 5,_,rfl,hbase,heap_alloc_new w.drew _,hge,hcm2,?_,?_⟩⟩,fun g hg=>?_⟩,⟨rfl,rfl,rfl,by simp,fun k hk _=>heap_alloc_old w.drew _ hk⟩⟩
   .simp[Builtin.append_,run_underlying ht,run_underlying htn,sizeOf,typeInfo,zeroValue,hi',hz0,hz1,hz2,asInt,asIntOf,hw,hneg,h48,hmn,hroom,h63',h48',Question.forced,hfo,newRow,grownCap]
   .rw[Array.size_append,Array.size_append,hzs];have:(Builtin.zeroCells (Value.int .u8 0).cells (grownCap w (n+m) c1 5-(n+m))).size=grownCap w (n+m) c1 5-(n+m):=by rw[<-U5,zR];simp
    rw[this];simp only[rJ,V7,hn];omega
   .simp only[qbx,hzl];rw[<-qbH];have e2:(n+m)*1=((l++List.replicate m 0).map jJ).length:=hlen.symm;rw[e2];exact List.take_left
   .cases hg
    refine⟨_,heap_alloc_new w.drew _,fun u hu=>?_⟩;simp only[qbx,UY] at hu;rcases hu with(hu|hu)|hu
    .exact xQ l u (by simpa using hu)
    .exact mZ _ u hu
    .exact mZ _ u hu
theorem sO{ops:Array Oper}{rest:List Oper}{o:Oper}{a:Act}{w:World}{Q:Exit->Act->World->Prop}(hgd:o.guard=none)(s x:Operand)(ho:o.op=.call {callee:=.builtin .append,args:=#[s,x],argTypes:=#[22,22]})(base:Nat){a1:Option Addr}{n c1:Nat}{l:List UInt8}(hs:a.eval s=.slice a1 n c1)(h:kF w base (.slice a1 n c1) n l){a2:Option Addr}{m c2:Nat}{l2:List UInt8}(hx:a.eval x=.slice a2 m c2)(hsrc:Bs w a2 m c2 l2)(hb:n+m<=140737488355328)(hbase:base<=w.heap.size)(hk:∀ a' c' w',kF w' base (.slice a' (n+m) c') (n+m) (l++l2)->w.grownBy w' (Value.slice a1 n c1).ownBlock->wpList qp0 ops Q rest (a.put o.dst (.slice a' (n+m) c')) w'):wpList qp0 ops Q (o::rest) a w:=by
 have hl:=hsrc.len
 cases a2 with
 | none =>
  obtain⟨rfl,rfl⟩:=hsrc.2.2.2.2 rfl;have hl2:l2=[]:=O8 hl;subst hl2;obtain⟨i,hi',hz0,hz1,hz2⟩:=Dw;refine Lib.wpList_append_run w hgd s x _ _ ho _ _ hs hx _ _ (run_append_owned_none (P:=qp0) w base 22 o.type 5 i 1 underlying22 hi' _ n _ h.own) ?_;have:=hk a1 c1 w (by rw[R4,Qq];exact h) ⟨rfl,rfl,rfl,aY _,fun _ _ _=>rfl⟩;rw[R4] at this;exact this
 | some ad =>
  obtain⟨a',c',w',hr,h2,h3⟩:=YZ o.type h (ad:=ad) (m:=m) (c2:=c2) hl (fun j u hj=>by
   obtain⟨y,hy,hv⟩:=hsrc.2.2.2.1 j u hj
   cases hy
   exact hv) hb hbase
  exact Lib.wpList_append_run w hgd s x _ _ ho _ _ hs hx _ _ hr (hk a' c' w' h2 h3)
def afk(w:World)(l:List UInt8)(e:Ending)(w':World):Prop :=∃ a n c,e=.returned (.slice a n c)/\kF w' w.heap.size (.slice a n c) n l/\Below w.heap.size w w'
theorem ab3(w:World)(base:Nat)(hb:base<=w.heap.size):kF (w.alloc (.cells #[] 5)) base (.slice (some ⟨w.heap.size,0,none⟩) 0 0) 0 [] :=⟨World.ownsRow_lit (base:=base) (e:=5) (size:=1) w #[] 0 hb (by decide) rfl,fun g hg=>by cases hg;exact⟨_,heap_alloc_new w _,by simp⟩⟩
theorem Ku(a:Option Addr)(n c:Nat)(x:List UInt8)(w:World)(ha:Bs w a n c x)(hn:n<=140737488355328):Calls qp0 20 #[.slice a n c] w (afk w x):=by
 obtain rfl:=ha.len;have ho0:=ab3 w w.heap.size (aY _);go_enter func20,ntmps20;go_wp2_with (at_builtin;refine sO rfl _ _ rfl w.heap.size rfl ho0 rfl ((Keeps.alloc w _).bs ha) (by omega) (by simp) ?_;intro a1 c1 w1 ho hg)
 go_ret;simp only[lU,yG] at ho ⊢;exact⟨a1,_,c1,rfl,ho,below_app ((Below.refl _ _).alloc (aY _) _) ho0.own hg (aY _) (by simp)⟩
namespace St
def hA:Hd:={name:=[97],link:=[],mode:=0,uid:=0,gid:=0,size:=3,mtime:=0,ty:=48,user:=[],group:=[],major:=0,minor:=0,form:=0}
theorem abN:Ol hA:=⟨by decide,by decide,by decide,by decide,by decide,by decide,by decide⟩
theorem ab7:afM hA:=⟨by decide,by decide,by decide,by decide⟩
def iA:List UInt8:=(Plain.make hA).1
theorem lN:iA.length=512:=by kernel_rfl
theorem Ra:rO hA=true:=by kernel_rfl
theorem XB:∀ k,k<7->(Plain.fA (Ct hA k) (JI k)).2=0:=by
 intro k hk;rcases (by omega:k=0\/k=1\/k=2\/k=3\/k=4\/k=5\/k=6) with rfl|rfl|rfl|rfl|rfl|rfl|rfl <;> kernel_rfl
theorem abK:Plain.make hA=(iA,0):=by kernel_rfl
def Ig:List UInt8:=iA++[120,121,122]++List.replicate 509 0
theorem ac0{w:World}{b:Nat}{t:TypeId}{l:List UInt8}(h:w.heap[b]? = some (.cells (aL l) t))(hm:l.length<=maxLen):Bs w (some ⟨b,0,none⟩) l.length l.length l:=by
 refine⟨by simp,aY _,hm,fun j v hj=>⟨_,rfl,?_⟩,fun h=>by cases h⟩;rw[Addr.add_lit,lU,cell_of_row _ _ _ _ _ _ h];rw[<-qaV];exact hj
theorem kF.some'{w:World}{base:Nat}{a:Option Addr}{n c:Nat}{l:List UInt8}(h:kF w base (.slice a n c) n l)(h0:n≠0):∃ A,a=some A:=by
 rcases h.own.2 with⟨e,hn⟩|⟨g,cap,cur,e,_⟩
 .exact absurd hn h0
 .cases e;exact⟨_,rfl⟩
theorem abr(w:World)(hT:EZ w):Calls qp0 39 #[] w (afk w Ig):=by
 have HM:=ah (BK hA abN ab7 Ra XB w hT);rw[abK] at HM;have HI:=ah (iL iA lN);have HO:=ah (sI iA);have HZ:=ah Bw;have qj:Hid ((aL cZ).size=(aL iA).size):=ah (by rw[eZ,eZ,lN,nS]);go_enter func39,ntmps39;go_upto_region 2 with(first|(go_at_call 37;refine(HM.out).mono ?_;rintro e w1 ⟨rfl,hb1⟩)|(with_reducible first|refine bV rfl _ rfl (aL cZ) HZ.out ?_|refine kC rfl _ _ _ rfl _ rfl (aL iA) rfl rfl qj.out HI.out HO.out ?_))
 have hb2:Below w.heap.size w (w1.alloc (.cells (aL iA) 70)):=hb1.alloc hb1.size _;have hr2:(w1.alloc (.cells (aL iA) 70)).heap[w1.heap.size]? = some (.cells (aL iA) 70):=heap_alloc_new w1 _;have hl2:w1.heap.size<(w1.alloc (.cells (aL iA) 70)).heap.size:=by simp
 generalize hbk:w1.heap.size=bk at *
 generalize w1.alloc (.cells (aL iA) 70)=w2 at *
 have HB2:=ah hb2;clear hb2 hb1 hbk;have ho3:=ab3 w2 w.heap.size HB2.out.size;have hb3:Below w.heap.size w (w2.alloc (.cells #[] 5)):=HB2.out.alloc HB2.out.size _;have hblk:Bs (w2.alloc (.cells #[] 5)) (some ⟨bk,0,none⟩) 512 512 iA:=by
  have h:=ac0 (l:=iA) (((Below.refl w2.heap.size w2).alloc (aY _) _:Below w2.heap.size w2 (w2.alloc (.cells #[] 5))).block bk hl2 |>.trans hr2) (by rw[lN];unfold maxLen;omega);rw[lN] at h;exact h
 go_upto_region 4 with(at_builtin;refine sO rfl _ _ rfl w.heap.size rfl ho3 rfl hblk (by decide) hb3.size ?_;intro a4 c4 w4 Rs hg4)
 have hb4:Below w.heap.size w w4:=below_app hb3 ho3.own hg4 (aY _) hb3.size;simp only[lU,yG] at Rs;clear hg4 ho3 hb3 hblk hr2 hl2 HB2;have hcv:=Lib.run_convert_bytes_const (P:=qp0) w4 22 5 #[.int .u8 120,.int .u8 121,.int .u8 122] 3 3 underlying22 underlying5;have hs5:Bs (w4.alloc (.cells #[.int .u8 120,.int .u8 121,.int .u8 122] 5 (3,4))) (some ⟨w4.heap.size,0,none⟩) 3 3 [120,121,122]:=Sg w4 5 1 3 #[.int .u8 120,.int .u8 121,.int .u8 122] (3,4) rfl (by decide);have ho5:=Rs.alloc (.cells #[.int .u8 120,.int .u8 121,.int .u8 122] 5 (3,4));have hb5:Below w.heap.size w (w4.alloc (.cells #[.int .u8 120,.int .u8 121,.int .u8 122] 5 (3,4))):=hb4.alloc hb4.size _;go_upto_region 5 with(at_builtin;refine sO rfl _ _ rfl w.heap.size rfl ho5 rfl hs5 (by decide) hb5.size ?_;intro a6 c6 w6 ho6 ET)
 have hb6:Below w.heap.size w w6:=below_app hb5 ho5.own ET (aY _) hb5.size;clear ET ho5 hb5 hs5 Rs hb4;obtain⟨A6,rfl⟩:=kF.some' ho6 (by decide);obtain⟨a7,c7,w7,OV,Pd,Lp⟩:=GH (w:=w6) 22 3 ⟨_,underlying3⟩ ho6 (m:=509) (by decide) (by decide) hb6.size;go_wp2_with (at_builtin;refine Lib.wpList_append_run _ rfl _ _ _ _ rfl _ _ rfl rfl _ _ OV ?_)
 go_ret;exact⟨some a7,_,c7,rfl,Pd,below_app hb6 ho6.own Lp (aY _) hb6.size⟩
end St
section
open Go.Conc
namespace Cc
def LA:List FuncId:=[15,17,19,20,21,22,23,37,39,48,49,67,68,69,70,71,73,87,106,107,108,127,139,140,141,161,171,172,173,174,175,176,177,200,201,202,203,204,205,206,207,208,231,232,233,234,235,236,237,252,253]
theorem WX:∀ f,yI qp0 LA f=true->f=161\/f=236\/f=237:=by
 intro f h;have key:(LA.all fun f=>!(yI qp0 LA f)||(f==161||(f==236||f==237)))=true:=by kernel_rfl
 have hm:f∈LA:=by unfold yI at h;rw[fE] at h;simpa using h.1
 rw[Ej] at key;have:=key f hm;rw[h] at this;simpa using this
theorem agU:J8 qp0 LA:=by
 intro f h args;rcases WX f h with rfl|rfl|rfl
 .exact Qe func161 (by simp only[Tryz.f161];decide) rfl rfl rfl Iy args
 .exact Qe func236 (by simp only[Tryz.f236];decide) rfl rfl rfl MC args
 .exact Qe func237 (by simp only[Tryz.f237];decide) rfl rfl rfl (Fq _ _) args
theorem okA:fO qp0 LA:=F7 (by kernel_rfl) agU
end Cc
end
section
open Go.Conc
namespace Cc
section
variable {P:Program}{ops:Array Oper}{b:Frame}{k:List Item}{cs:List Frame}{Φ:Goroutine->World->Prop}
def gW(P:Program)(md:Region.Mode)(ops:Array Oper)(b:Frame)(k:List Item)(cs:List Frame)(Φ:Goroutine->World->Prop):Nat->Array Bool->Act->World->Prop
 | 0,listed,a,w=>BW P (G (b.at a (.inRegion ops []::k)) cs) w Φ
 | fuel+1,listed,a,w =>
  (Region.ready md ops listed=[]->BW P (G (b.at a (.inRegion ops []::k)) cs) w Φ) /\
  ∀ i∈Region.ready md ops listed,∀ rest,(∀ a' w',gW P md ops b k cs Φ fuel (listed.setIfInBounds i true) a' w'->BW P (G (b.at a' (.inRegion ops rest::k)) cs) w' Φ) ->
   BW P (G (b.at a (.inRegion ops (i::rest)::k)) cs) w Φ
theorem Mq{md:Region.Mode}:∀ (fuel t:Nat)(listed:Array Bool)(a:Act)(w:World),gW P md ops b k cs Φ fuel listed a w->BW P (G (b.at a (.inRegion ops (Region.linearise.go md ops fuel t listed [])::k)) cs) w Φ:=by
 intro fuel
 induction fuel with
 | zero=>intro t listed a w h;unfold gW at h;simpa[Region.linearise.go] using h
 | succ fuel ih =>
  intro t listed a w h;obtain⟨h₀,θ⟩:=h;simp only[Region.linearise.go]
  change BW P (G (b.at a (.inRegion ops (match (Region.ready md ops listed)[t%(Region.ready md ops listed).length]? with
   | some i=>Region.linearise.go md ops fuel (t / (Region.ready md ops listed).length) (listed.setIfInBounds i true) [i]
   | none=>[].reverse)::k)) cs) w Φ
  cases hi:(Region.ready md ops listed)[t%(Region.ready md ops listed).length]? with
  | none =>
   have hnil:Region.ready md ops listed=[]:=by
    cases hr:Region.ready md ops listed with
    | nil=>rfl
    | cons x xs =>
     rw[hr] at hi;have hlt:t%(x::xs).length<(x::xs).length:=qcz _ (by simp);simp at hi;simp at hlt;omega
   simpa using h₀ hnil
  | some i =>
   simp only[];rw[linearise_go_acc,qcc,qcm];exact θ i (qbb hi) _ fun a' w' h'=>ih _ _ a' w' h'
theorem BW.PX{id:Nat}{a:Act}{w:World}(hm:P.follows .mixedOrders=true)(h:gW P .any ops b k cs Φ ops.size (Array.replicate ops.size false) a w)(hat:∀ d,gW P .any ops b k cs Φ ops.size (Array.replicate ops.size false) a (w.at d)):BW P (G (b.at a (.code (.region id ops true)::k)) cs) w Φ:=by
 refine BW.step rfl fun d=>⟨_,{(w.at d) with drawn:=(w.at d).drawn+1},#[],stepG_region_draw,aY _,by simp,?_⟩
 have:=Mq ops.size ((w.at d).tape (w.at d).drawn (.order b.fn id)) _ a _ (hat (d+1));simp only[Region.schedule,hm,Bool.true_or,if_true];exact this
theorem YI{md:Region.Mode}:∀ (fuel:Nat)(listed:Array Bool)(a:Act)(w:World)(d:Nat),gW P md ops b k cs Φ fuel listed a w->gW P md ops b k cs Φ fuel listed a (w.at d)
 | 0,listed,a,w,d,h=>BW.at h d
 | fuel+1,listed,a,w,d,h=>⟨fun hr=>(h.1 hr).at d,fun i hi rest hn=>(h.2 i hi rest hn).at d⟩
theorem BW.draw{id:Nat}{a:Act}{w:World}(hm:P.follows .mixedOrders=true)(h:gW P .any ops b k cs Φ ops.size (Array.replicate ops.size false) a w):BW P (G (b.at a (.code (.region id ops true)::k)) cs) w Φ :=BW.PX hm h fun d=>YI _ _ _ _ d h
end
end Cc
end
section
open Go.Conc
open Cc (tp)
namespace St
open Cc (BW fI eP lK pJ okA)
open Sr (dW iM bU)
def XT:List UInt8:=Ig++List.replicate 1024 0
def acH:En:={kind:=1,name:=[97],link:=[],mode:=0,uid:=0,gid:=0,user:=[],group:=[],sec:=0,nano:=0,data:=[120,121,122]}
theorem Vp:Plain.jA XT ⟨10,0⟩=⟨[acH],0,2048,0⟩:=by kernel_rfl
theorem Oa:Ig.length=1024:=by kernel_rfl
theorem Ee:(qp0.info? 30).bind (·.zero)=some (.agg #[.slice none 0 0,.int .i64 0,.int .i64 0,.int .i64 0]):=by kernel_rfl
theorem aas:Plain.sealed iA=true:=by kernel_rfl
theorem CQ{ε:Nat×Nat}{D:Nat->Prop}{t:Array Value}{w w':World}{a:Option Addr}{n c:Nat}(h:bU qp0 (dW ε) (fun _=>False) D t w)(hb:fI w w')(hz:ZB w' (.slice a n c))(hge:∀ g,(Value.slice a n c).ownBlock=some g->w.heap.size<=g):∃ D',bU qp0 (dW ε) (fun _=>False) D' #[.slice a n c] w'/\∀ b,D b->D' b:=by
 have h0:bU qp0 (dW ε) (fun _=>False) D #[] w:=⟨h.off,h.gb,h.bnd,h.heap,.nil⟩;have h1:bU qp0 (dW ε) (fun _=>False) D #[] w':=o7 h0 hb fun b hb=>hb.elim
 cases a with
 | none=>exact⟨D,⟨h1.off,h1.gb,h1.bnd,h1.heap,dz (by intro u hu;simp at hu;subst hu;exact .iq _ _)⟩,fun b hb=>hb⟩
 | some A =>
  obtain⟨cs,hg1,hg2⟩:=hz A.block rfl;have hlt:A.block<w'.heap.size:=(fT.1 hg1).1;have hge:=hge A.block rfl;have hmono:∀ x y,Sr.mQ D x y->Sr.mQ (fun b=>D b\/b=A.block) x y:=fun x y hxy=>⟨hxy.1,.inl hxy.2⟩
  have hf:(dW ε) (2*A.block+1000000001)=false:=by
   cases hx:(dW ε) (2*A.block+1000000001) with
   | false=>rfl
   | true=>have:=h.heap.oq _ hx;omega
  refine⟨fun b=>D b\/b=A.block,⟨fun b hb=>hb.elim,⟨⟨fun a a' b h h'=>h.1.trans h'.1.symm,fun a b b' h h'=>h.1.symm.trans h'.1⟩,fun g hg b h=>h.1.symm,fun g hg a h=>h.1,fun g hg=>⟨rfl,.inl (h1.gb.gl g hg).2⟩⟩,?_,⟨fun x y hxy=>?_,h1.heap.opq,fun x y hxy=>?_⟩,dz (by intro u hu;simp at hu;subst hu;exact .slice _ _ _ _ ⟨⟨rfl,.inr rfl⟩,rfl,rfl⟩)⟩,fun b hb=>.inl hb⟩
  .rintro b (hb|rfl)
   .exact h1.bnd b hb
   .exact hlt
  .obtain⟨rfl,hxy⟩:=hxy;rcases hxy with hxy|rfl
   .exact(h1.heap.rel x x ⟨rfl,hxy⟩).mono hmono
   .rw[hg1];exact .some (.cells _ _ _ _ (dz (fun u hu=>by obtain⟨x,rfl⟩:=hg2 u hu;exact .int _ _)))
  .obtain⟨rfl,hxy⟩:=hxy;rcases hxy with hxy|rfl
   .exact h1.heap.Af x x ⟨rfl,hxy⟩
   .exact⟨hf,hf⟩
theorem QA{w w':World}(h:fI w w')(k:EZ w):EZ w':=EZ.below (w:=tp w w'.tape w'.drawn) k h
theorem XP{w:World}{ao:Option Addr}{n c:Nat}{l:List UInt8}(hb:Bs w ao n c l):(convert 22 9 (.slice ao n c)).run qp0 w=.ok (.string ⟨l.toArray⟩) w:=by
 cases ao with
 | none =>
  obtain⟨rfl,rfl⟩:=hb.2.2.2.2 rfl;have:l=[]:=O8 hb.len;subst this;exact run_convert_bytes_nil w _ _ underlying22 underlying5 0 0 _ underlying9
 | some ad =>
  obtain rfl:=hb.len;exact run_convert_bytes_back w _ _ _ ad c l underlying22 underlying5 underlying9 (fun j hj=>by
   obtain⟨x,hx,hc⟩:=hb.2.2.2.1 j (jJ l[j]) (by simp[kM hj])
   cases hx
   exact hc)
section
variable {ε:Nat×Nat}{Φ:Goroutine->World->Prop}{b:Frame}{a:Act}{k:List Item}{cs:List Frame}{w:World}{ops:Array Oper}{i:Nat}{rest:List Nat}{o:Oper}
noncomputable def WA:Code:=Tryz.f38.body.getD .skip
theorem abo:Sr.kg qp0 (dW ε) Sr.kW [] WA=true:=by kernel_rfl
noncomputable def Yk:Code:=Tryz.f14.body.getD .skip
theorem Vb(ho:ops[i]? = some o)(hwt:Region.wanted o (yielded ops a.tmps)=true)(hk:b.kind≠.early)(hop:o.op=.call {callee:=.value (.func 14),args:=#[],argTypes:=#[]}){ev:Value}(hml:uF w)(her:eO w ev)(hpw:lV w)(hbr:EZ w){D:Nat->Prop}(hcl:bU qp0 (dW ε) (fun _=>False) D #[] w)(hn:∀ w',fI w w'->BW qp0 (G (b.at (a.put o.dst (.bool true)) (.inRegion ops rest::k)) cs) w' Φ):BW qp0 (G (b.at a (.inRegion ops (i::rest)::k)) cs) w Φ:=by
 have hname:(Tryz.f14.name == "runtime.NumGoroutine")=false:=by simp only[Tryz.f14];decide
 have hbody:Tryz.f14.body=some Yk:=by simp only[Yk,Tryz.f14,Option.getD_some]
 have hts:(#[]:Array Value)++Array.replicate (Tryz.f14.ntmps-(#[]:Array Value).size) au=#[au,au,au,au,au,au,au,au,au,au,au,au,au,au,au,au,au,au,au,au,au,au,au,au,au,au,au,au,au,au,au,au,au,au,au,au,au,au,au,au,au,au,au,au,au,au,au]:=by kernel_rfl
 refine Cc.BW.enter ho hwt hk hop func14 hname hbody (vs:=#[]) (by simp) hts fun pf hpf=>?_
 simp only[Yk,Tryz.f14,Option.getD_some];refine BW.seq ?_;refine BW.region ?_;simp only[rJ,oH,List.length_nil,Nat.reduceAdd,lU,List.range'];refine BW.move rfl rfl (by decide) (.inr rfl) ?_;walk_nrm;refine BW.rend ?_;refine BW.seq ?_;refine BW.region ?_;simp only[rJ,oH,List.length_nil,Nat.reduceAdd,lU,List.range'];refine BW.jU rfl rfl (by decide) (.agg (dQ hA)) (fun ω=>by constructor <;> kernel_rfl) ?_;walk_nrm;refine BW.call (Rr:=fun v w'=>v=.tuple #[.agg (aL iA),.int .i64 0]/\fI w w') rfl rfl (by decide) rfl okA (by kernel_rfl) func37 rfl (vs:=#[.agg (dQ hA)]) (by simp[Act.eval]) (fun τ d=>(BK hA abN ab7 Ra XB (tp w τ d) hbr).mono fun e w' hq=>by rw[abK] at hq;exact⟨_,hq.1,rfl,.pR hq.2⟩) (fun v w' τ d hq=>⟨hq.1,hq.2.tp τ d⟩) fun v w1 hv=>?_
 obtain⟨rfl,hb1⟩:=hv;walk_nrm;refine BW.move rfl rfl (by decide) (.inl rfl) ?_;walk_nrm;refine BW.jU rfl rfl (by decide) _ (fun ω=>eP rfl rfl rfl ω) ?_;walk_nrm;refine BW.jU rfl rfl (by decide) _ (fun ω=>eP rfl rfl rfl ω) ?_;walk_nrm;refine Cc.BW.TV (pv w1.heap.size) (Rw:=fun y=>fI w1 y/\y.heap[w1.heap.size]? = some (.cells (aL cZ) 70)) LG rfl (by decide) rfl (fun τ d=>bV rfl _ rfl (aL cZ) Bw ⟨rfl,rfl,.pR (τ:=τ) (d:=d) ((Below.refl _ (tp w1 τ d)).alloc (aY _) _),heap_alloc_new _ _⟩) (fun w' τ d hr=>⟨hr.1.tp τ d,hr.2⟩) fun w2 hr2=>?_
 obtain⟨hb2,hr2⟩:=hr2;walk_nrm;have hsz:(aL cZ).size=(aL iA).size:=by rw[eZ,eZ,lN,nS]
 refine Cc.BW.TV au (Rw:=fun y=>fI w1 y/\y.heap[w1.heap.size]? = some (.cells (aL iA) 70)) LG rfl (by decide) rfl (fun τ d=>wpList_store_row rfl _ _ _ rfl w1.heap.size rfl (aL iA) rfl (aL cZ) 70 hr2 hsz (iL iA lN) (sI iA) ⟨rfl,rfl,?_,setRow_heap _ _ _ _ _ _ hr2⟩) (fun w' τ d hr=>⟨hr.1.tp τ d,hr.2⟩) fun w3 hr3=>?_
 .exact .pR (τ:=τ) (d:=d) ⟨hb2.os,rfl,hb2.output,by rw[size_setRow];exact hb2.size,fun k hk=>(setRow_other _ _ _ _ (Nat.ne_of_lt hk)).trans (hb2.block k hk)⟩
 obtain⟨hb3,hr3⟩:=hr3;clear hr2 hb2;walk_nrm;refine BW.move rfl rfl (by decide) (.inr rfl) ?_;walk_nrm;refine BW.rend ?_;refine BW.seq ?_;refine BW.seq ?_;refine BW.region ?_;simp only[rJ,oH,List.length_nil,Nat.reduceAdd,lU,List.range'];refine Cc.BW.TV (.agg (aL iA)) (Rw:=fun y=>∃ τ d,y=tp w3 τ d) LG rfl (by decide) rfl (fun τ d=>?_) (fun w' τ d hr=>⟨τ,d,by obtain⟨_,_,rfl⟩:=hr;rfl⟩) fun w4 hr4=>?_
 .refine cK rfl _ _ rfl w1.heap.size 0 rfl (aL iA) _ (fun j v hj=>?_) underlying70 rfl (by rw[show(aL iA).toList.length=(aL iA).size from rfl];exact iL iA lN) ⟨rfl,rfl,τ,d,rfl⟩;rw[lU,cell_of_row _ _ _ _ _ _ (show(tp w3 τ d).heap[w1.heap.size]? = _ from hr3)];rw[<-qaV];exact hj
 obtain⟨τ,d,rfl⟩:=hr4;walk_nrm;have aaf:fI w (tp w3 τ d):=(hb1.seq hb3).tp τ d;generalize tp w3 τ d=w4 at aaf;have aep:=tH aaf her;have Iw:bU qp0 (dW ε) (fun _=>False) D (#[.agg (aL iA)]++Array.replicate (Tryz.f38.ntmps-(#[.agg (aL iA)]:Array Value).size) au) w4:=by
  have h:=o7 (S':=fun _=>False) hcl aaf fun b hb=>hb.elim
  refine⟨h.off,h.gb,h.bnd,h.heap,Sr.AV.app (dz fun u hu=>?_) (Sr.AV.abx _ Sr.dG)⟩;simp at hu;subst hu;exact .DC (dz fun u hu=>by
   obtain⟨x,_,rfl⟩:=ZW.1 (show u∈iA.map jJ by simpa[aL] using hu);exact .int _ _)
 refine Sr.ZN (D:=D) (c:=WA) Vn Ud WG rfl rfl (by decide) rfl func38 (by simp only[Tryz.f38];decide) (by simp only[WA,Tryz.f38,Option.getD_some]) (vs:=#[.agg (aL iA)]) (by simp[Act.eval]) rfl Iw abo (Rr:=fun v w'=>v=.bool true/\fI w4 w')
  (fun τ d=>(vE iA lN (tp w4 τ d) ev aep).mono fun e w' hq=>by rw[aas] at hq;exact⟨_,hq.1,rfl,.pR hq.2⟩) (fun v w' τ d hq=>⟨hq.1,hq.2.tp τ d⟩) fun v w5 hv=>?_
 obtain⟨rfl,hb5⟩:=hv;have adW:fI w w5:=aaf.seq hb5;clear Iw aep;walk_nrm;refine BW.jU rfl rfl (by decide) (.bool false) (fun ω=>by constructor <;> kernel_rfl) ?_;walk_nrm;refine BW.rend ?_;refine BW.cond (t:=false) rfl ?_;simp only[jI,if_false];refine BW.skip ?_;refine BW.seq ?_;refine BW.region ?_;simp only[rJ,oH,List.length_nil,Nat.reduceAdd,lU,List.range'];refine BW.call (Rr:=fun v w'=>∃ a n c,v=.slice a n c/\kF w' w5.heap.size (.slice a n c) n Ig/\fI w5 w') rfl rfl (by decide) rfl okA (by kernel_rfl) func39 rfl (vs:=#[]) (by simp) (fun τ d=>(abr (tp w5 τ d) (QA (adW.tp τ d) hbr)).mono fun e w' hq=>by
  obtain⟨x,n,c,rfl,h1,h2⟩:=hq;exact⟨_,rfl,x,n,c,rfl,h1,.pR h2⟩) (fun v w' τ d hq=>by
  obtain⟨x,n,c,rfl,h1,h2⟩:=hq;exact⟨x,n,c,rfl,h1.kept fun _ _=>rfl,h2.tp τ d⟩) fun v w6 hv=>?_
 obtain⟨x6,n6,c6,rfl,ho6,hb6⟩:=hv;walk_nrm;have hn6:n6=1024:=by rw[<-Bh ho6.own];exact Oa
 subst hn6;obtain⟨A6,rfl⟩:=kF.some' ho6 (by decide);refine Cc.BW.op1 (Rr:=fun x y=>∃ a' c',x=⟨#[.bool false,pv w1.heap.size,.int .i64 0,au,.tuple #[.agg (aL iA),.int .i64 0],.agg (dQ hA),.tuple #[.agg (aL iA),.int .i64 0],.agg (aL iA),.int .i64 0,.agg (aL iA),.bool true,.bool false,.slice (some A6) 1024 c6,.slice (some a') 2048 c',au,au,au,au,au,au,au,au,au,au,au,au,au,au,au,au,au,au,au,au,au,au,au,au,au,au,au,au,au,au,au,au,au],[]⟩/\kF y w5.heap.size (.slice (some a') 2048 c') 2048 XT/\fI w5 y) LG rfl (by decide) rfl (fun τ d=>?_) (fun x y τ d hq=>?_) fun x w7 hq=>?_
 .obtain⟨a7,c7,w7,OV,Pd,Lp⟩:=GH (w:=tp w6 τ d) 22 3 ⟨_,underlying3⟩ (ho6.kept (w':=tp w6 τ d) fun _ _=>rfl) (m:=1024) (by decide) (by decide) hb6.size;refine Lib.wpList_append_run _ rfl _ _ _ _ rfl _ _ rfl rfl _ _ OV ⟨rfl,a7,c7,rfl,Pd,?_⟩;have:=below_app (B:=w5.heap.size) (w0:=tp w5 τ d) (w:=tp w6 τ d) ⟨hb6.os,rfl,hb6.output,hb6.size,hb6.block⟩ (ho6.kept (w':=tp w6 τ d) fun _ _=>rfl).own Lp (aY _) hb6.size;exact .pR (τ:=τ) (d:=d) this
 .obtain⟨a',c',h1,h2,h3⟩:=hq;exact⟨a',c',h1,h2.kept fun _ _=>rfl,h3.tp τ d⟩
 obtain⟨a7,c7,rfl,Pd,mq⟩:=hq;have Vu:fI w w7:=adW.seq mq;refine BW.jU rfl rfl (by decide) (nV ⟨10,0⟩) (fun ω=>by constructor <;> kernel_rfl) ?_;walk_nrm;obtain⟨D7,ags,_⟩:=CQ hcl Vu Pd.cl (fun g hg=>tT adW.size (Pd.own.lt g hg).1);refine JX (ε:=ε) (lim:=⟨10,0⟩) (data:=XT) rfl rfl (by decide) rfl rfl rfl (OY Pd.own) (by decide) (xP Vu hml) (tH Vu her) (xW Vu hpw) ags fun v w8 hv=>?_
 obtain⟨⟨x8,n8,c8,Q,rfl,hQ,ho8,hd8⟩,Zi⟩:=hv;rw[Vp] at hQ;rw[Vp];walk_nrm;obtain⟨y8,rfl⟩:∃ y,Q=[(acH,y)]:=by
  rcases Q with _|⟨⟨e,y⟩,_|⟨q,Q⟩⟩
  .cases hQ
  .simp at hQ;subst hQ;exact⟨y,rfl⟩
  .simp at hQ
 have hn8:n8=1:=by have:=ho8.1;simp only[qbr,List.flatMap_nil,Qq,iy] at this;omega
 subst hn8;have hd8:=hd8 _ (qbk.2 rfl);refine Cc.BW.TV (pv w8.heap.size) (Rw:=fun y=>fI w8 y/\y.heap[w8.heap.size]? = some (.cells #[.slice none 0 0,.int .i64 0,.int .i64 0,.int .i64 0] 30)) LG rfl (by decide) rfl (fun τ d=>bV rfl _ rfl _ Ee ⟨rfl,rfl,.pR (τ:=τ) (d:=d) ((Below.refl _ (tp w8 τ d)).alloc (aY _) _),heap_alloc_new _ _⟩) (fun w' τ d hr=>⟨hr.1.tp τ d,hr.2⟩) fun w9 MP=>?_
 obtain⟨Xi,MP⟩:=MP;walk_nrm;refine Cc.BW.TV au (Rw:=fun y=>fI w8 y/\y.heap[w8.heap.size]? = some (.cells #[.slice x8 1 c8,.int .i64 0,.int .i64 2048,.int .i64 0] 30)) LG rfl (by decide) rfl (fun τ d=>wpList_store_row rfl _ _ _ rfl w8.heap.size rfl #[.slice x8 1 c8,.int .i64 0,.int .i64 2048,.int .i64 0] rfl _ 30 MP rfl (by kernel_rfl) (by intro u hu;simp at hu;rcases hu with rfl|rfl|rfl|rfl <;> rfl) ⟨rfl,rfl,?_,setRow_heap _ _ _ _ _ _ MP⟩) (fun w' τ d hr=>⟨hr.1.tp τ d,hr.2⟩) fun MO aaC=>?_
 .exact .pR (τ:=τ) (d:=d) ⟨Xi.os,rfl,Xi.output,by rw[size_setRow];exact Xi.size,fun k hk=>(setRow_other _ _ _ _ (Nat.ne_of_lt hk)).trans (Xi.block k hk)⟩
 obtain⟨P9,aaC⟩:=aaC;clear MP Xi;walk_nrm;refine BW.rend ?_;have aeE:fI w MO:=Vu.seq (Zi.seq P9);refine BW.rest (L:=Cc.LA) okA func14 (by kernel_rfl) (Post:=fun v w'=>v=.bool true/\fI MO w') (fun τ d=>?_) (fun v w' τ d hq=>⟨hq.1,hq.2.tp τ d⟩) fun v w' hq=>?_
 .rcases ho8.2 with⟨he,h0⟩|⟨g8,cap,cur,he,hg1,hg2,hg3,hg4,hg5,ET⟩
  .cases h0
  cases he
  have afv:g8<w8.heap.size:=(fT.1 hg2).1;have aeZ:(tp MO τ d).heap[g8]? = some (.cells cur 42):=(P9.block g8 afv).trans hg2;have hce:∀ j v,(fG (acH,y8))[j]? = some v->(tp MO τ d).cell? ⟨g8,j,none⟩=some v:=fun j v hj=>by
   rw[cell_of_row _ _ _ _ _ _ aeZ];have hj2:(cur.toList.take (1*11))[j]? = some v:=by rw[ET];simpa using hj
   rw[VX] at hj2;split at hj2
   .rw[<-qaV];exact hj2
   .cases hj2
  have he1:(tp MO τ d).cell? ⟨g8,1,none⟩=some (.string ⟨#[97]⟩):=hce 1 _ rfl;have ahX:(tp MO τ d).cell? ⟨g8,10,none⟩=some (.slice y8.1 y8.2.1 y8.2.2):=hce 10 _ rfl;have hr:(tp MO τ d).heap[w8.heap.size]? = _:=aaC;have hp0:(tp MO τ d).cell? ⟨w8.heap.size,0,none⟩=some (.slice (some ⟨g8,0,none⟩) 1 c8):=cell_of_row _ _ _ _ _ _ hr;have hp1:(tp MO τ d).cell? ⟨w8.heap.size,1,none⟩=some (.int .i64 0):=cell_of_row _ _ _ _ _ _ hr;have hp2:(tp MO τ d).cell? ⟨w8.heap.size,2,none⟩=some (.int .i64 2048):=cell_of_row _ _ _ _ _ _ hr;have hbd:Bs (tp MO τ d) y8.1 y8.2.1 y8.2.2 [120,121,122]:=(P9.tp τ d).keeps.bs (OY hd8);have HB:=ah (fI.tp (fI.refl MO) τ d);generalize tp MO τ d=W at *
  generalize w8.heap.size=p8 at *
  clear aeZ hce hr aaC P9 afv hg2;unfold pv;have hcv:=XP hbd;go_wp2
  go_ret;exact⟨_,rfl,rfl,HB.out⟩
 .obtain⟨rfl,hb'⟩:=hq;rw[hpf];exact hn w' (aeE.seq hb')
end
end St
end
section
open Go.ChangeMaps (open_string shut_string)
section
variable {H:Type}{enc:TypeId×Value->H}{P:Program}{w:World}{base:Nat}
theorem wf_u8{z:Int}(h:(Lit.int .u8 z).wf=true):0<=z/\z<256:=by
 have:=bounds_u8 h;omega
theorem wf_i64{z:Int}(h:(Lit.int .i64 z).wf=true):-9223372036854775808<=z/\z<9223372036854775808:=by
 have:=bounds_i64 h;omega
def toU8(z:Int):UInt8:=UInt8.ofNat z.toNat
theorem U7{z:Int}(h0:0<=z)(h1:z<256):jJ (toU8 z)=.int .u8 z:=by
 have:((UInt8.ofNat z.toNat).toNat:Int)=z:=by rw[qbR];omega
 simp only[jJ,toU8,this]
end
end
theorem YH{laid:List (String×DataW Unit)}{W:World}(h:laidMetH qp0 laid W)(hl:(laid.filter fun x=>x.1 == "internal/strconv.uint64pow10")=[("internal/strconv.uint64pow10",Rows.laid_internal_strconv_uint64pow10)]):lV W:=by
 have h1:=h.filter (fun x=>x.1 == "internal/strconv.uint64pow10");rw[hl] at h1;exact Lib.tabIs_of_head (rest:=[]) (n:=20) Za (by kernel_rfl) underlying290 underlying257 (by kernel_rfl) (by kernel_rfl) h1
theorem QG:"*" ++ "errors.errorString" = "*errors.errorString":=by decide
theorem aeb(u:TypeId)(h:qp0.typeName? 3 u=some "*errors.errorString"):u=311 :=typeName_ptr_named (nm := "errors.errorString") (by rw[QG];kernel_rfl) (by kernel_rfl) (by decide) u (by rw[QG];exact h)
def zB:Nat->DataW Unit->List Value
 | 0,_=>[]
 | _+1,.lit (.int k z)=>[.int k z]
 | k+1,.agg ps=>ps.flatMap (zB k)
 | _,_=>[]
def CP(h:Array Obj)(g:Nat)(vs:List Value):Array Obj:=h.modify g fun
 | .cells _ t frozen=>.cells vs.toArray t frozen
 | o=>o
noncomputable def low:Nat:=(World.holding qp0 default ⟨#[],#[],[]⟩).heap.size
noncomputable def yX(os:Os):World :=
 let w0:=World.holding qp0 os ⟨#[.cells #[.string ⟨#[118,97,108,117,101,32,111,117,116,32,111,102,32,114,97,110,103,101]⟩] 313,.cells #[.string ⟨#[105,110,118,97,108,105,100,32,115,121,110,116,97,120]⟩] 313],#[],[]⟩
 let h:=CP w0.heap 6 (zB 3 Rows.laid_math_bits_deBruijn32tab)
 let h:=CP h 7 (zB 3 Rows.laid_math_bits_deBruijn64tab)
 let h:=CP h 1 (zB 3 Rows.laid_internal_strconv_uint64pow10)
 let h:=CP h 3 [.iface 311 (.pointer (some ⟨low,0,none⟩))]
 let h:=CP h 2 [.iface 311 (.pointer (some ⟨low+1,0,none⟩))]
 let h:=CP h 4 (zB 4 Rows.laid_unicode_utf8_first)
 let h:=CP h 5 (zB 4 Rows.laid_unicode_utf8_acceptRanges)
 {w0 with heap:=h}
section
section
variable {H:Type}{enc:TypeId×Value->H}{P:Program}{w:World}{base:Nat}
theorem VN(d:DataW H):1<=Rows.uptoBulk d:=by
 cases d with
 | lit l=>cases l <;> simp[Rows.uptoBulk]
 | nil=>simp[Rows.uptoBulk]
 | ptr d=>simp[Rows.uptoBulk]
 | slice elems spare=>simp[Rows.uptoBulk]
 | agg parts=>simp[Rows.uptoBulk]
 | iface t d=>simp[Rows.uptoBulk]
 | map entries=>simp[Rows.uptoBulk]
 | held h=>simp[Rows.uptoBulk]
theorem Ca:∀ (l:List (DataW H)),l.length<=Rows.uptoBulkAll l
 | []=>by simp[Rows.uptoBulkAll]
 | x::r=>by
  have h1:=VN x;have h2:=Ca r;simp only[Rows.uptoBulkAll,oH];omega
theorem U6{l:List (DataW H)}(h:Rows.uptoSmall H l=true):Rows.uptoBulkAll l<=1048576:=by simpa[Rows.uptoSmall] using h
theorem R6{l:List (DataW H)}(h:Rows.uptoSmall H l=true){d:DataW H}(hd:d∈l):Rows.uptoBulk d<=1048576:=by
 have h0:=U6 h;have hx:∀ (l:List (DataW H)),d∈l->Rows.uptoBulk d<=Rows.uptoBulkAll l:=by
  intro l
  induction l with
  | nil=>intro h;cases h
  | cons x r ih =>
   intro h;simp only[Rows.uptoBulkAll];rcases rD.1 h with rfl|h
   .omega
   .have:=ih h;omega
 have:=hx l hd;omega
theorem AJ{t e:TypeId}{v:Value}{d:DataW H}{p:List MemPlace}{r:Reach}{b0:Nat}(ht:P.underlying t=some (.slice e))(he:P.underlying e=some (.int .u8))(hc:P.cellsOf e=1)(hv:Value.okWide P w r b0 t v)(h:DataW.Trod enc P w 0 (fun _=>true) true t v d p)(hs:Rows.uptoBulk d<=1048576):∃ a n c l,v=.slice a n c/\Bs w a n c l/\c<=1048576:=by
 obtain⟨a,n,c,rfl⟩:=okWide_slice ht hv;obtain⟨fuel,hf⟩:=h;rcases open_ints ht he hc hf with⟨hcs,_⟩|⟨x,l,c',zs,hcs,_,hl,hm,hz,hx,hcell,hwz⟩
 .simp[Value.cells] at hcs;obtain⟨rfl,rfl,rfl⟩:=hcs;exact⟨none,0,0,[],rfl,⟨rfl,aY _,by decide,fun j v hj=>by simp at hj,fun _=>⟨rfl,rfl⟩⟩,by omega⟩
 .simp[Value.cells] at hcs;obtain⟨rfl,rfl,rfl⟩:=hcs;simp only[if_true] at hz;simp only[MV] at hx;obtain⟨rfl,rfl⟩:=hx;have acf:c<=1048576:=by
   simp only[Rows.uptoBulk] at hs;have h1:=Ca (lits (H:=H) IntKind.u8 (zs.take n));have h2:=Ca (lits (H:=H) IntKind.u8 (zs.drop n));simp only[lits,V7,zQ,zW] at h1 h2;simp only[lits] at hs;omega
  refine⟨some x,n,c,(zs.take n).map toU8,rfl,⟨by simp;omega,hl,hm,fun j v hj=>⟨x,rfl,?_⟩,fun h=>by cases h⟩,acf⟩;simp only[List.map_map,qcw,zA,VX] at hj;obtain⟨z,hzj,rfl⟩:=hj;split at hzj
  .have hjl:j<zs.length:=(qbl.1 hzj).1;have hmem:z∈zs:=qbb hzj;obtain⟨w0,w1⟩:=wf_u8 (hwz z hmem);have:=hcell j hjl;simp only[List.getD,hzj,Option.getD_some] at this;simp only[Function.comp,U7 w0 w1];exact this
  .cases hzj
end
end
section
open Go.Conc
section
variable {H:Type}{enc:TypeId×Value->H}
theorem EL{a:Assume}{C:Checked}{os:Os}{f:FuncId}{fn:Func}{s:OpenSpec}{F:Stop.Interp}{conds:List PathCond}{apart fresh handsOn again:Bool}{laid:List (String×DataW Unit)}(own:ownKnob C.prog.godebug=none)(started:os.Started)(hfn:C.prog.funcs[f]? = some fn)(witness:∃ (w:World)(tape:Tape)(i:Input),w.os=os/\(w.forCall tape i).Shaped C.prog/\i.vars=[]/\Input.okWide C.prog (w.forCall tape i) .any w.heap.size f i /\
   s.preRow enc C.prog fn conds apart laid (w.forCall tape i).memory i.args/\a.holds C.prog (lone (Frame.enter C.prog f i.args .normal) [] (w.forCall tape i)))
  (runs:∀ (W:World)(base:Nat)(args:Array Value)(ds gs:List (DataW H))(before:List MemPlace),
   (∀ (j:Nat) t v,fn.params[j]? = some t->args[j]? = some v->Value.okWide C.prog W .any base t v) ->
   DataW.Whole enc C.prog fn.params.toList s.vars apart W args.toList ds gs before ->
   conds.all (PathCond.test C.prog ⟨fn.params.toList,ds,s.bare.plain.varTypes C.prog,gs⟩)=true ->
   (∀ k,s.cond=some k->k H (ds++gs)=true) ->
   (DataW.weightsEach C.prog (fn.params.toList++s.bare.plain.varTypes C.prog) (ds++gs)).all (·<=reachBytes)=true ->
   laidMetH C.prog laid W ->
   W.ShapedOpen C.prog ->
   a.holds C.prog (lone (Frame.enter C.prog f args .normal) [] W) ->
   ∃ M last o w' t',runNT C.prog (M+1) (solo (G (Frame.enter C.prog f args .normal) []) W) #[]=(.ended o w',t')/\runN C.prog M (solo (G (Frame.enter C.prog f args .normal) []) W)=.next last /\
    step C.prog last=.ended o w'/\Conc.Good C.prog (fun v W'=>(s.at F).post enc C.prog fn apart fresh handsOn again W args v W') last o w' t'):ReturnsInLeavingWide a C os f .any (s.preRow enc C.prog fn conds apart laid) ((s.at F).post enc C.prog fn apart fresh handsOn again):=by
 refine returnsInLeavingWide_of_good own started witness ?_;intro w tape i _ hsh _ hok hpre hholds;obtain⟨_,_,_,fn',hfn',_,_,_,_,hval⟩:=hok;have e:fn'=fn:=pQ (hfn'.symm.trans hfn);subst e;obtain⟨⟨hp,hl⟩,hz⟩:=hpre;obtain⟨ds,gs,before,hw,hc,hk⟩:=OpenSpec.pre_parts hp;have hw':=DataW.Whole.of_heap (w':=w.forCall tape i) (by rfl) hw;obtain⟨M,last,o,w',t',h1,h2,h3,h4⟩:=runs (w.forCall tape i) w.heap.size i.args ds gs before hval hw' hc hk (hz.weights hw) (hl.of_heap (by rfl)) hsh hholds;exact⟨M,last,o,w',t',h1,h2,h3,h4.mono fun v hp=>ChangeSpec.post_blind hp⟩
end
theorem zN{p:Pinned}{s:OpenSpec}{c:OpenClaim}(f:FuncId)(fn:Func)(hn:c.program=p.name)(hs:c.sum=p.sum)(hsp:c.spec=s.name)(hstart:c.start=.entering)(hout:c.outside=[])(hin:c.inits=[])(hun:c.under=none)(hi4:c.initsInPlace=[]/\c.initsUnfollowed=false/\c.initsRecurse=false/\c.initsNamed=[]/\c.initsPassed=[])(hnb:c.noBlocks=false)(hlv:c.leaving=true)(hfo:c.followed=none)(hnar:c.narrowed=s.cond.isSome)(hstill:c.still=false)(hfn:p.checked.prog.funcNamed c.func=some f)(hf:p.checked.prog.funcs[f]? = some fn)(closed:joinedFacts p.checked.prog f fn s.bare c=true)(hinst:fn.isInstance p.checked.prog c.origin c.targs)(hwrap:fn.isWrapper p.checked.prog c.wrapper c.mainSum)(h:∀ os:Os,os.Started->∀ (H:Type)(enc:TypeId×Value->H),(∀ a b,enc a=enc b->a=b)->∀ F:Stop.Interp,
   ReturnsInLeavingWide c.assume p.checked os f .any (c.pre enc p.checked.prog fn s) ((s.at F).post enc p.checked.prog fn c.apart c.fresh c.handsOn c.again)):c.holds p s:=by
 simp only[joinedFacts,fE,beq_iff_eq,qbO,Ej,decide_eq_true_eq] at closed;obtain⟨⟨⟨⟨⟨⟨⟨⟨⟨⟨⟨⟨⟨⟨⟨⟨⟨⟨⟨⟨⟨⟨⟨⟨⟨⟨⟨⟨⟨⟨⟨k1,k2⟩,k3⟩,k4⟩,k5⟩,k6⟩,k7⟩,k8⟩,k9⟩,k10⟩,k11⟩,k12⟩,k13⟩,k14⟩,k15⟩,k16⟩,k17⟩,k17b⟩,k18⟩,k19⟩,k20⟩,k21⟩,k22⟩,k23⟩,k23b⟩,k24⟩,k24b⟩,k24c⟩,k25⟩,k26⟩,k27⟩,k28⟩:=closed;have hq:∀ os:Os,Stop.quiet p.checked.prog os:=fun os k hk=>by rw[k9] at hk;cases hk
 refine⟨k1,hn,hs,hsp,k2,k3,by unfold OpenClaim.startFits;rw[hstart];exact k24,by unfold OpenClaim.startTold;rw[hstart];exact⟨hin,hun,hi4⟩,f,fn,hfn,hf,⟨k4,k19⟩,(fun hb=>by rw[hnb] at hb;cases hb),by unfold OpenClaim.namedList;rw[hfo];exact k5,hinst,hwrap,
  k6.trans k7.symm,⟨k8.trans k9.symm,by unfold Program.envWorded;rw[k9];rfl,k23b⟩,k10,k11,k12,k13,k14,⟨k15,k27,k28⟩,⟨k16,k20⟩,⟨k17,k21,k25,k26⟩,⟨k22,k24b,k24c,k17b⟩,(by rw[hout,hnar];cases hsh:c.shortTexts with|none=>simp|some _=>rw[hsh] at k23;cases k23),fun n hn'=>varReadable_some (k18 n hn'),
  ⟨_,by unfold OpenClaim.world;rw[hout,hstart];exact WideRow.started_initial,hq _⟩,[],by unfold OpenClaim.lists;rw[hfo],fun os st _ H enc inj=>?_⟩
 have st':os.Started:=by unfold OpenClaim.world at st;rw[hout,hstart] at st;exact st
 rw[OpenClaim.post_not_still hstill];unfold OpenClaim.form;rw[hstart,k6];intro F;have e1:c.okInput=Input.okWide:=by unfold OpenClaim.okInput;rw[hnb]
 have e2:c.atReturn p.checked.prog=leavingAtReturn p.checked.prog:=by unfold OpenClaim.atReturn;rw[hlv]
 have e3:c.always p.checked.prog []=nothingAlways:=by unfold OpenClaim.always;rw[hfo]
 have e4:s.post enc p.checked.prog fn F c.outside c.apart c.fresh c.handsOn c.again=(s.at F).post enc p.checked.prog fn c.apart c.fresh c.handsOn c.again:=by rw[hout];rfl
 rw[e1,e2,e3];show ReturnsInOpen _ _ _ _ _ _ _ _ (s.post enc p.checked.prog fn F c.outside c.apart c.fresh c.handsOn c.again) _ _;rw[e4];exact h os st' H enc inj F k24
theorem vI(Lk:Looks){p:Pinned}{s:OpenSpec}{c:OpenClaim}(kinds:List LaidKind)(tests:Bool)(har:Bool×String)(lk g:Bool)(hc:c.holds p s)(hw:c.wfByText s=true)(htie:c.laidByTextAt Lk p kinds tests)(hst:c.start=.entering)(hnb:c.noBlocks=false/\c.again=false)(hm:p.checked.prog.mainIs=some (har.1,har.2.toList))(hn:(!har.1&&har.2.isEmpty&&!lk)=false)(hl:∀ f fn,p.checked.prog.funcNamed c.func=some f->p.checked.prog.funcs[f]? = some fn->lk=p.checked.prog.looks []/\∀ (j:Nat) t,fn.params[j]? = some t->p.checked.prog.wantsStandIn t=false)(hg:g=c.goesBy p.checked.prog):Claim7.holds p (.plain s) {stood:={row:=c,standIns:=[],harness:=har,looks:=lk},kinds:=[],alts:=[],goes:=g,laidByText:=true,laidKinds:=kinds,laidTests:=tests,laidLooks:=Lk}:=by
 have h6:∀ r:OpenClaim,Claim7.isSixth {stood:={row:=r,standIns:=[],harness:=har,looks:=lk},kinds:=[]}=false:=fun r=>by simpa[Claim7.isSixth] using hn
 exact⟨Claim7.tied_new_at Lk kinds tests (Claim7.new_of_sixth hc har lk hst hnb hm (h6 c) hl) hw,fun D hD=>(by cases hD),htie,(fun h=>by cases h),hg⟩
end
def QL:DataW Unit->List Int
 | .agg ps=>ps.map fun|.lit (.int _ z)=>z|_=>0
 | _=>[]
theorem afA:qp0.globalNamed "math/bits.deBruijn64tab"=some 7:=by kernel_rfl
theorem acU{laid:List (String×DataW Unit)}{W:World}(h:laidMetH qp0 laid W)(hl:(laid.filter fun x=>x.1 == "math/bits.deBruijn64tab")=[("math/bits.deBruijn64tab",Lib.tabData .u8 (QL Rows.laid_math_bits_deBruijn64tab))]):EZ W:=by
 have h1:=h.filter (fun x=>x.1 == "math/bits.deBruijn64tab");rw[hl] at h1;have ht:=Lib.tabIs_of_head (rest:=[]) (n:=64) afA (by kernel_rfl) underlying316 underlying5 (by kernel_rfl) (by kernel_rfl) h1;have hc:=ht.cell afA 7 (of_decide_eq_true (by kernel_rfl));have e:(QL Rows.laid_math_bits_deBruijn64tab).getD 7 0=3:=by kernel_rfl
 rw[e] at hc;exact hc
section
open Go.Conc
namespace St
open Cc (BW fI)
open Sr (dW iM bU)
noncomputable def Yp(t:TypeId):Bool:=match qp0.cellTypes qp0.depth t with
 | some ts=>ts.all fun u=>match qp0.underlying u with|some (.int _)=>true|_=>false
 | none=>false
theorem WB{W:World}{r:Reach}{b:Nat}{u:TypeId}{v:Value}(hu:(match qp0.underlying u with|some (.int _)=>true|_=>false)=true)(h:Cell.ok qp0 W r b u v):∃ k z,v=.int k z:=by
 unfold Cell.ok at h
 cases hx:qp0.underlying u with
 | none=>rw[hx] at hu;cases hu
 | some x =>
  rw[hx] at hu h
  cases x <;> simp at hu
  cases v <;> simp at h
  exact⟨_,_,rfl⟩
theorem YU{W:World}{r:Reach}{b:Nat}{t:TypeId}{cs:Array Value}(ht:Yp t=true)(h:Row.ok qp0 W r b t cs):∀ (i:Nat) v,cs[i]? = some v->∃ k z,v=.int k z:=by
 obtain⟨ts,h1,_,h3⟩:=h;unfold Yp at ht;rw[h1] at ht;simp only[Ej] at ht;intro i v hv;obtain⟨u,hu,hc⟩:=h3 i v hv;exact WB (ht u (qbb hu)) hc
theorem Ml{W:World}(hs:W.ShapedOpen qp0)(g:Nat)(t:TypeId)(n:Nat)(hg:g<qp0.globals.size)(h0:(((begin qp0 (fun _ _=>0) default).world.heap[g]?).bind Obj.row?).map (fun x=>(x.1.size,x.2))=some (n,t)):∃ cs,W.heap[g]? = some (.cells cs t)/\cs.size=n/\(qp0.buildable t=true->Row.ok qp0 W .any 0 t cs):=by
 cases hx:((begin qp0 (fun _ _=>0) default).world.heap[g]?).bind Obj.row? with
 | none=>rw[hx] at h0;cases h0
 | some p =>
  obtain⟨zero,t'⟩:=p;rw[hx] at h0;simp only[MK,Ba,MV] at h0;obtain⟨e1,rfl⟩:=h0;obtain⟨cs,h1,h2,h3⟩:=hs.1 g zero t' hg hx;exact⟨cs,h1,h2.trans e1,h3⟩
theorem ni{W:World}(hs:W.ShapedOpen qp0)(g:Nat)(t:TypeId)(n:Nat)(hg:g<qp0.globals.size)(h0:(((begin qp0 (fun _ _=>0) default).world.heap[g]?).bind Obj.row?).map (fun x=>(x.1.size,x.2))=some (n,t))(hb:qp0.buildable t=true)(hi:Yp t=true):∃ cs,W.heap[g]? = some (.cells cs t)/\cs.size=n/\∀ (i:Nat) v,cs[i]? = some v->∃ k z,v=.int k z:=by
 obtain⟨cs,h1,h2,h3⟩:=Ml hs g t n hg h0;exact⟨cs,h1,h2,YU hi (h3 hb)⟩
theorem aaX{W:World}{r:Reach}{b:Nat}{cs:Array Value}(h:Row.ok qp0 W r b 3 cs):∀ (i:Nat) v,cs[i]? = some v->∃ z,v=.int .i64 z:=by
 obtain⟨ts,h1,_,h3⟩:=h;rw[show qp0.cellTypes qp0.depth 3=some [3] by kernel_rfl] at h1;obtain rfl:=pQ h1;intro i v hv;obtain⟨u,hu,hc⟩:=h3 i v hv;rw[qcn,Nat.mod_one] at hu;obtain rfl:=pQ hu;unfold Cell.ok at hc;rw[underlying3] at hc
 cases v <;> simp at hc
 obtain⟨rfl,_⟩:=hc;exact⟨_,rfl⟩
theorem Qv{laid:List (String×DataW Unit)}{W:World}{n:String}{g:Nat}{text:List UInt8}(h:laidMetH qp0 laid W)(hl:(laid.filter fun x=>x.1==n)=[(n,.iface "*errors.errorString" (.ptr (.agg [.lit (.string text)])))])(hg:qp0.globalNamed n=some g)(ht:(qp0.globals[g]?).map (·.type)=some 205):∃ a:Addr,W.var? qp0 n=some #[.iface 311 (.pointer (some a))]/\(∃ s,W.cell? a=some (.string s))/\∃ c t,W.heap[a.block]? = some (.cells c t (0,0)):=by
 have h1:=h.filter (fun x=>x.1==n);rw[hl] at h1;have h1:laidMet qp0 _ W:=h1;obtain⟨ps,⟨g0,t0,cs0,f0,p0,q0,hg0,ht0,hv0,hd0,_,e0⟩,_,hrows⟩:=h1;obtain rfl:=pQ (hg.symm.trans hg0);obtain rfl:=pQ (ht.symm.trans ht0);subst e0;obtain⟨l0⟩:=cs0;have ok0:∀ u v,l0=[.iface u v]->Value.okWide qp0 W .any 0 u v:=fun u v e=>by
  subst e;exact(hrows g 0 (by simp[MemPlace.row])).2 u v (by simpa using World.var?_cell hg0 hv0 0)
 obtain⟨a0,s0,rfl,hc0,hs0,hz0,rfl⟩:=errorString_of_trod underlying205 aeb underlying311 underlying313 rfl rfl underlying9 (by kernel_rfl) (by kernel_rfl) hd0 ok0;exact⟨a0,hv0,⟨s0,hc0⟩,(hrows a0.block (a0.off+0) (by simp[MemPlace.row])).1⟩
theorem LD{W:World}{n:String}{g:Nat}{cs:Array Value}(hg:qp0.globalNamed n=some g)(h:W.var? qp0 n=some cs):∃ t f,W.heap[g]? = some (.cells cs t f):=by
 unfold World.var? at h;rw[hg] at h;simp only[Option.bind_some] at h;split at h
 .rename_i c t f hc
  cases h
  exact⟨t,f,hc⟩
 .cases h
theorem Xt:(Sr.LW.all fun f=>decide (f<1000000000)||decide (f%2=0))=true:=by kernel_rfl
theorem acj(b:Nat):Sr.LW.contains (2*b+1000000001)=false:=by
 cases hx:Sr.LW.contains (2*b+1000000001) with
 | false=>rfl
 | true =>
  exfalso;have h:=Xt;rw[Ej] at h;have hm:(2*b+1000000001)∈Sr.LW:=by simpa using hx
  have:=h _ hm;simp only[Yb,decide_eq_true_eq] at this;have this:(2*b+1000000001:Nat)<1000000000\/(2*b+1000000001:Nat)%2=0:=this;omega
theorem Ae:qp0.globals.size=8:=by kernel_rfl
theorem iC{W:World}{a:Addr}{s:ByteArray}{g:Nat}{cs:Array Value}{t:TypeId}{f:Nat×Nat}(hg:W.heap[g]? = some (.cells cs t f))(hn:∀ (i:Nat) s,cs[i]?≠some (.string s))(h:W.cell? a=some (.string s)):a.block≠g:=by
 rintro rfl;unfold World.cell? at h;rw[hg] at h;simp only at h;split at h
 .cases h
 .exact hn _ _ h
theorem aeI{laid:List (String×DataW Unit)}{W:World}(hs:W.ShapedOpen qp0)(hl:laidMetH qp0 laid W)(e1:(laid.filter fun x=>x.1 == "strconv.ErrRange")=[("strconv.ErrRange",Rows.laid_strconv_ErrRange)])(e2:(laid.filter fun x=>x.1 == "strconv.ErrSyntax")=[("strconv.ErrSyntax",Rows.laid_strconv_ErrSyntax)]):(∃ ε,bU qp0 (dW ε) (fun _=>False) (fun b=>b<8) #[] W)/\uF W/\∃ ev,eO W ev:=by
 obtain⟨a,va,⟨sa,ca⟩,oa⟩:=Qv (n := "strconv.ErrRange") (g:=3) hl e1 (by kernel_rfl) (by kernel_rfl);obtain⟨b,vb,⟨sb,cb⟩,ob⟩:=Qv (n := "strconv.ErrSyntax") (g:=2) hl e2 (by kernel_rfl) (by kernel_rfl);obtain⟨ta,fa,ha⟩:=LD (g:=3) (by kernel_rfl) va;obtain⟨tb,fb,hb⟩:=LD (g:=2) (by kernel_rfl) vb;obtain⟨c0,h0,n0,i0⟩:=ni hs 0 3 1 (by rw[Ae];decide) (by kernel_rfl) (by kernel_rfl) (by kernel_rfl);obtain⟨c1,h1,n1,i1⟩:=ni hs 1 290 20 (by rw[Ae];decide) (by kernel_rfl) (by kernel_rfl) (by kernel_rfl);obtain⟨c4,h4,n4,i4⟩:=ni hs 4 307 256 (by rw[Ae];decide) (by kernel_rfl) (by kernel_rfl) (by kernel_rfl);obtain⟨c5,h5,n5,i5⟩:=ni hs 5 310 32 (by rw[Ae];decide) (by kernel_rfl) (by kernel_rfl) (by kernel_rfl);obtain⟨c6,h6,n6,i6⟩:=ni hs 6 315 32 (by rw[Ae];decide) (by kernel_rfl) (by kernel_rfl) (by kernel_rfl);obtain⟨c7,h7,n7,i7⟩:=ni hs 7 316 64 (by rw[Ae];decide) (by kernel_rfl) (by kernel_rfl) (by kernel_rfl);have l8:∀ g,g<8->g<W.heap.size:=by
  intro g hg;have lt:∀ {g:Nat}{o:Obj},W.heap[g]? = some o->g<W.heap.size:=fun h=>(fT.1 h).1
  rcases (by omega:g=0\/g=1\/g=2\/g=3\/g=4\/g=5\/g=6\/g=7) with rfl|rfl|rfl|rfl|rfl|rfl|rfl|rfl
  .exact lt h0
  .exact lt h1
  .exact lt hb
  .exact lt ha
  .exact lt h4
  .exact lt h5
  .exact lt h6
  .exact lt h7
 have Ut:∀ {cs:Array Value},(∀ (i:Nat) v,cs[i]? = some v->∃ k z,v=.int k z)->∀ (i:Nat) s,cs[i]?≠some (.string s):=by
  intro cs h i s e;obtain⟨k,z,e2⟩:=h i _ e
  cases e2
 have aeP:∀ {t:TypeId} {p:Value} (i:Nat) s,(#[Value.iface t p]:Array Value)[i]?≠some (.string s):=by
  intro t p i s e;rcases i with _|i
  .simp at e
  .simp at e
 have far:∀ {x:Addr}{s:ByteArray},W.cell? x=some (.string s)->8<=x.block:=by
  intro x s hx;have q0:=iC h0 (Ut i0) hx;have q1:=iC h1 (Ut i1) hx;have q2:=iC hb aeP hx;have q3:=iC ha aeP hx;have q4:=iC h4 (Ut i4) hx;have q5:=iC h5 (Ut i5) hx;have q6:=iC h6 (Ut i6) hx;have q7:=iC h7 (Ut i7) hx;have q2:x.block≠2:=q2;have q3:x.block≠3:=q3;have q0:x.block≠0:=q0;have q1:x.block≠1:=q1;have q4:x.block≠4:=q4;have q5:x.block≠5:=q5;have q6:x.block≠6:=q6;have q7:x.block≠7:=q7;omega
 have fa:=far ca;have fb:=far cb;have lx:∀ g:Nat,dW (a.block,b.block) (2*g+1000000001)=true↔g=a.block\/g=b.block:=by
  intro g;unfold dW;rw[acj];simp only[Bool.false_or,Yb,beq_iff_eq];constructor
  .rintro (h|h)
   .have h:(2*g+1000000001:Nat)=2*a.block+1000000001:=h;omega
   .have h:(2*g+1000000001:Nat)=2*b.block+1000000001:=h;omega
  .rintro (rfl|rfl)
   .exact .inl rfl
   .exact .inr rfl
 have ints:∀ {cs:Array Value},(∀ (i:Nat) v,cs[i]? = some v->∃ k z,v=.int k z)->Sr.AV (Sr.mQ fun b=>b<8) (dW (a.block,b.block)) cs cs:=by
  intro cs h;refine dz fun u hu=>?_
  obtain⟨i,hi,rfl⟩:=qbz hu;obtain⟨k,z,e⟩:=h i _ (by rw[<-qaV];exact kM hi);rw[e];exact .int _ _
 have afZ:dW (a.block,b.block) (2*311+1000000000)=true:=by
  unfold dW;rw[show Sr.LW.contains (2*311+1000000000)=true by kernel_rfl];rfl
 refine⟨⟨(a.block,b.block),⟨fun b hb=>hb.elim,⟨⟨fun a a' b h h'=>h.1.trans h'.1.symm,fun a b b' h h'=>h.1.symm.trans h'.1⟩,fun g hg b h=>h.1.symm,fun g hg a h=>h.1,fun g hg=>⟨rfl,by rw[Ae] at hg;exact hg⟩⟩,fun g hg=>l8 g hg,⟨fun x y hxy=>?_,fun g hg=>?_,fun x y hxy=>?_⟩,.nil⟩⟩,?_,?_⟩
 .obtain⟨rfl,hx⟩:=hxy;rcases (by omega:x=0\/x=1\/x=2\/x=3\/x=4\/x=5\/x=6\/x=7) with rfl|rfl|rfl|rfl|rfl|rfl|rfl|rfl
  .rw[show W.heap[0]? = _ from h0];exact .some (.cells _ _ _ _ (ints i0))
  .rw[show W.heap[1]? = _ from h1];exact .some (.cells _ _ _ _ (ints i1))
  .rw[show W.heap[2]? = _ from hb];exact .some (.cells _ _ _ _ (dz (by intro u hu;simp at hu;subst hu;exact .tJ _ _ afZ ((lx _).2 (.inr rfl)))))
  .rw[show W.heap[3]? = _ from ha];exact .some (.cells _ _ _ _ (dz (by intro u hu;simp at hu;subst hu;exact .tJ _ _ afZ ((lx _).2 (.inl rfl)))))
  .rw[show W.heap[4]? = _ from h4];exact .some (.cells _ _ _ _ (ints i4))
  .rw[show W.heap[5]? = _ from h5];exact .some (.cells _ _ _ _ (ints i5))
  .rw[show W.heap[6]? = _ from h6];exact .some (.cells _ _ _ _ (ints i6))
  .rw[show W.heap[7]? = _ from h7];exact .some (.cells _ _ _ _ (ints i7))
 .rcases (lx g).1 hg with rfl|rfl
  .obtain⟨c,t,h⟩:=oa;exact⟨c,t,h,h⟩
  .obtain⟨c,t,h⟩:=ob;exact⟨c,t,h,h⟩
 .obtain⟨rfl,hx⟩:=hxy;have:dW (a.block,b.block) (2*x+1000000001)=false:=by
   cases hq:dW (a.block,b.block) (2*x+1000000001) with
   | false=>rfl
   | true=>rcases (lx x).1 hq with rfl|rfl <;> omega
  exact⟨this,this⟩
 .obtain⟨cs,g0,g1,g2⟩:=Ml hs 0 3 1 (by rw[Ae];decide) (by kernel_rfl);obtain⟨z,e⟩:=aaX (g2 (by kernel_rfl)) 0 _ (mJ (by omega));refine⟨z,?_⟩;rw[cell_of_row _ _ _ _ _ _ (show W.heap[0]? = _ from g0),mJ (by omega),e]
 .refine⟨_,World.var?_cell (by kernel_rfl) va 0 |>.trans rfl,_,_,rfl⟩
end St
end
section
variable {H:Type}{enc:TypeId×Value->H}{w:World}
theorem He{P:Program}{t:TypeId}{fuel:Nat}{cs:List Value}{d:DataW H}{p:List MemPlace}(ht:P.underlying t=some (.int .i64))(h:DataW.trod enc P w 0 (fun _=>true) true fuel t cs=some (d,p)):∃ z,cs=[.int .i64 z]/\iF z=true:=by
 obtain⟨z,rfl,_,hz⟩:=DataW.trod_int ht h;have:=wf_i64 hz;exact⟨z,rfl,(gM z).2 ⟨this.1,by omega⟩⟩
end
section
variable {H:Type}{enc:TypeId×Value->H}{w:World}
theorem YD{fuel:Nat}{cs:List Value}{d:DataW H}{p:List MemPlace}(h:DataW.trod enc qp0 w 0 (fun _=>true) true fuel 24 cs=some (d,p)):∃ l:kG,cs=[.int .i64 l.name,.int .i64 l.iP]/\iF l.name=true/\iF l.iP=true:=by
 obtain⟨ys,n,_,hx,hlen,hyl,hf⟩:=DataW.trod_struct underlying24 h;simp only[MV] at hx;obtain⟨rfl,rfl⟩:=hx;have hc:qp0.cellsOf 24=2:=by kernel_rfl
 have hci:qp0.cellsOf 3=1:=by kernel_rfl
 rw[hc] at hlen
 match cs,hlen,ys,hyl,hf with
 | [c0,c1],_,[y0,y1],_,hf =>
  have h0:DataW.trod enc qp0 w 0 (fun _=>true) true n 3 [c0]=some y0:=by have:=hf 0 _ rfl;simpa[hci] using this
  have h1:DataW.trod enc qp0 w 0 (fun _=>true) true n 3 [c1]=some y1:=by have:=hf 1 _ rfl;simpa[hci] using this
  obtain⟨x,e0,l0⟩:=He underlying3 h0;obtain⟨y,e1,l1⟩:=He underlying3 h1;simp only[qbo,and_true] at e0 e1;subst e0 e1;exact⟨⟨x,y⟩,rfl,l0,l1⟩
theorem VI{v:Value}{d:DataW H}{p:List MemPlace}{r:Reach}{b0:Nat}(hv:Value.okWide qp0 w r b0 24 v)(h:DataW.Trod enc qp0 w 0 (fun _=>true) true 24 v d p):∃ l:kG,v=St.nV l/\iF l.name=true/\iF l.iP=true:=by
 obtain⟨cs,rfl,_⟩:=okWide_struct underlying24 hv;obtain⟨fuel,hf⟩:=h;obtain⟨l,e,r⟩:=YD hf;exact⟨l,congrArg Value.agg (qcy e),r⟩
end
theorem ak5(x:EU)(w:World)(h:Bs w x.2.1 x.2.2.1 x.2.2.2 x.1.data)(hn:x.2.2.1<=140737488355328):Calls qp0 48 #[.agg (sS x)] w fun r w'=>∃ s,r=.returned (.agg (sS (x.1,s)))/\iw w' w.heap.size (x.1,s)/\Below w.heap.size w w' :=(akS x.1.kind x.1.name x.1.link x.1.mode x.1.uid x.1.gid x.1.user x.1.group x.1.sec x.1.nano x.2.1 x.2.2.1 x.2.2.2 x.1.data w h hn).mono fun r w' ⟨a,n,c,hr,ho,hb⟩=>⟨(a,n,c),hr,ho,hb⟩
theorem ak0{w:World}{B B':Nat}{t t':TypeId}{sz sz' n n':Nat}{v v':Value}{xs ys:List Value}(h:w.ownsRow B t sz v n xs)(h':w.ownsRow B' t' sz' v' n' ys)(ht:t≠t')(b:Nat)(h1:v.ownBlock=some b):v'.ownBlock≠some b:=by
 intro h2;obtain⟨_,h⟩:=h;obtain⟨_,h'⟩:=h';rcases h with⟨rfl,_⟩|⟨g,cap,cur,rfl,_,hh,_⟩
 .cases h1
 .rcases h' with⟨rfl,_⟩|⟨g',cap',cur',rfl,_,hh',_⟩
  .cases h2
  .have e1:g=b:=pQ (show some g=some b from h1);have e2:g'=b:=pQ (show some g'=some b from h2);subst e1;subst e2;rw[hh] at hh';simp only[Ba,Obj.cells.injEq] at hh';exact ht hh'.2.1
theorem gJ{w w':World}{base:Nat}{e:TypeId}{sz:Nat}{v:Value}{n:Nat}{xs:List Value}(h:w.ownsRow base e sz v n xs)(hk:∀ k,v.ownBlock=some k->w'.heap[k]? = w.heap[k]?):w'.ownsRow base e sz v n xs:=by
 obtain⟨h1,h2⟩:=h;refine⟨h1,?_⟩;rcases h2 with h2|⟨g,cap,cur,hv,hg,hh,r⟩
 .exact Or.inl h2
 .exact Or.inr ⟨g,cap,cur,hv,hg,by rw[hk g (by rw[hv];rfl)];exact hh,r⟩
theorem iw.keep{w w':World}{B:Nat}{x:EU}(h:iw w B x)(k:Below w.heap.size w w'):iw w' B x:=VQ h fun j _ hj=>k.block j hj
theorem alD(w:World)(x:EU):wh (w.alloc (.cells (sS x) 42)) 11 (some ⟨w.heap.size,0,none⟩) 1 1 ([x].flatMap fG):=by
 have:=pq w 42 11 1 (sS x) rfl (by decide);simpa[fG] using this
theorem alv(x:EU):(qp0.info? 42).map (fun i=>(i.zero,i.size))=some (some (Value.agg fZ),(sS x).size):=by show _=some (some (Value.agg fZ),11);kernel_rfl
theorem alB(x:EU):fZ.size=(sS x).size:=rfl
theorem alr(x:EU):0<(sS x).size:=by show 0<11;decide
theorem alq(x:EU):(sS x).size<=16777216:=by show 11<=_;decide
theorem akL.keep{w0 w w':World}{B:Nat}{L:List En}{a:Option Addr}{n c:Nat}{S:List EU}(h:akL w0 B L a n c S w)(k:Below w.heap.size w w')(hB:B<=w.heap.size):akL w0 B L a n c S w' :=⟨h.bJ.trans (k.mono hB),VQ h.own fun j _ hj=>k.block j hj,h.map,fun x hx=>(h.dat x hx).keep k,h.rise⟩
theorem ak6{w:World}{B:Nat}{x:EU}(h:iw w B x)(b:Nat)(hb:x.2.1.map (·.block)=some b):B<=b/\b<w.heap.size:=h.lt b (by rw[<-hb];cases x.2.1 <;> rfl)
theorem akL.snoc{w0 wr w3 w4:World}{B:Nat}{L:List En}{a a4:Option Addr}{n c c4:Nat}{S:List EU}{e:En}{s:Option Addr×Nat×Nat}(h:akL w0 B L a n c S wr)(hB:B<=wr.heap.size)(ho:iw w3 wr.heap.size (e,s))(k:Below wr.heap.size wr w3)(Rs:w4.ownsRow B 42 11 (.slice a4 (n+1) c4) (n+1) (S.flatMap fG++[(e,s)].flatMap fG))(hg:(w3.alloc (.cells (sS (e,s)) 42)).grownBy w4 (Value.slice a n c).ownBlock):akL w0 B (L++[e]) a4 (n+1) c4 (S++[(e,s)]) w4:=by
 have h3:=h.keep k hB;have hsz:(w3.alloc (.cells (sS (e,s)) 42)).heap.size=w3.heap.size+1:=by simp
 have hst:∀ x,iw w3 B x->iw w4 B x:=fun x hx=>gJ hx fun b hb=>by
  have hlt:=(hx.lt b hb).2;rw[hg.block b (by omega) (fun q=>ak0 hx h3.own (by decide) b hb q.symm),heap_alloc_old _ _ hlt]
 have hos:iw w3 B (e,s):=akX ho hB;refine⟨?_,by rw[List.flatMap_append];exact Rs,by rw[qbH,h.map];rfl,?_,?_⟩
 .refine(h3.bJ.alloc (tT hB k.size) _).grown hg (by have:=k.size;omega) (fun b hb=>?_);exact(h3.own.lt b hb).1
 .intro x hx;rcases UY.1 hx with hx|hx
  .exact hst x (h3.dat x hx)
  .rw[qbk] at hx;subst hx;exact hst _ hos
 .rw[List.pairwise_append];refine⟨h.rise,List.pairwise_singleton _ _,fun x hx y hy b b' hb hb'=>?_⟩;rw[qbk] at hy;subst hy;have h1:=(ak6 (h.dat x hx) b hb).2;have h2:=(ak6 ho b' hb').1;omega
theorem akO(a:Option Addr)(n c:Nat)(S:List EU)(w:World)(h:Qg w a n c S)(hn:n<=1000000000000)(hd:∀ x∈S,x.2.2.1<=140737488355328):Calls qp0 22 #[.slice a n c] w fun r w'=>∃ a' n' c' S',r=.returned (.slice a' n' c')/\akL w w.heap.size (S.map (·.1)) a' n' c' S' w':=by
 have hl:=h.len;have hcap:=h.cap;have hmax:=h.max;have HL:=ah hl;have HH:=ah h;have HD:=ah hd;clear hl h hd;go_enter func22,ntmps22;go_wp2
 go_loopw [3,4] (fun v i wr=>∃ (k:Nat)(a1:Option Addr)(c1:Nat)(S1:List EU),k<=n/\i=.int .i64 k/\v=.slice a1 k c1/\Hid (akL w w.heap.size ((S.take k).map (·.1)) a1 k c1 S1 wr)) (fun _ i _=>n-(intOf i).toNat)
 case atStart=>exact⟨0,some ⟨w.heap.size,0,none⟩,0,[],M8 _,rfl,rfl,ah ⟨(Below.refl _ _).alloc (aY _) _,World.ownsRow_lit (base:=w.heap.size) (e:=42) (size:=11) w #[] 0 (aY _) (by decide) rfl,rfl,by simp,List.Pairwise.nil⟩⟩
 case round =>
  obtain⟨k,a1,c1,S1,hk,rfl,rfl,hI⟩:=hrel;by_cases hlt:k<n
  .obtain⟨b,off,rfl,hr⟩:=(HH.out.below hI.out.bJ).at k hlt;have hdk:=(HH.out.below hI.out.bJ).acD k hlt;have hx2:(S.getD k Zk).2.2.1<=140737488355328:=HD.out _ (by
    have:k<S.length:=by have:=HL.out;omega
    simp[List.getD,kM this])
   have hmap:(S.take (k+1)).map (·.1)=(S.take k).map (·.1)++[(S.getD k Zk).1]:=by
    have:k<S.length:=by have:=HL.out;omega
    rw[Nh this,qbH];simp[List.getD,kM this]
   have HM:=ah hmap;generalize S.getD k Zk=x at *
   have HR:=ah hr;have HDK:=ah hdk;have HX2:=ah hx2;clear hr hdk hx2 hmap;go_wp2_with (first|(refine cK rfl _ _ rfl b (off+k*11) rfl (sS x) _ (by exact HR.out) underlying42 rfl (by exact alc x) ?_)|(go_at_call 48;(refine(ak5 x wr HDK.out HX2.out).mono ?_);rintro r w3 ⟨s,rfl,ho3,hb3⟩;have HO3:=ah ho3;have HB3:=ah hb3;clear ho3 hb3;have HOW:Hid ((w3.alloc (.cells (sS (x.1,s)) 42)).ownsRow w.heap.size 42 11 (.slice a1 k c1) k (S1.flatMap fG)):=ah (VQ hI.out.own fun j _ hj=>by rw[heap_alloc_old _ _ (CW hj HB3.out.size)];exact HB3.out.block j hj);have qj:Hid (w.heap.size<=(w3.alloc (.cells (sS (x.1,s)) 42)).heap.size):=ah (by have:=hI.out.bJ.size;have:=HB3.out.size;simp;omega))|(with_reducible refine zo rfl 27 _ rfl underlying27 (sS (x.1,s)) (alv (x.1,s)) (alB (x.1,s)) (alr (x.1,s)) (alq (x.1,s)) rfl ?_)|(at_builtin;refine nJ rfl _ _ 27 rfl w.heap.size 42 _ 11 136 underlying27 FW rfl (by decide) (by decide) rfl HOW.out rfl (alD w3 (x.1,s)) (aeg [(x.1,s)]) (by omega) qj.out ?_;intro a4 c4 w4 Rs hg4))
   have hN:=hI.out.snoc (hI.out.bJ.size) HO3.out HB3.out Rs hg4;exact⟨⟨k+1,a4,c4,_,by omega,by go_num,rfl,ah (by rw[HM.out];exact hN)⟩,by simp[intOf];omega⟩
  .obtain rfl:k=n:=by omega
   go_wp2
   go_ret;refine⟨a1,k,c1,S1,rfl,?_⟩;have:=hI.out;rw[MU (by have:=HL.out;omega)] at this;exact this
theorem aix(s n:Int)(w:World):(binOp .eql 40 (.agg #[.int .i64 s,.int .i64 n]) (.agg #[.int .i64 s,.int .i64 n])).run qp0 w=.ok (.bool true) w:=by
 rw[run_eql_struct,run_equalIn_agg w 9999 40 _ _ (by kernel_rfl) (by kernel_rfl)];have hs:∀ (d:Nat)(a b:Int),(Op.equalIn (d+1) 3 (.int .i64 a) (.int .i64 b)).run qp0 w=.ok (a==b) w:=fun d a b=>run_equalIn_int w d 3 .i64 .i64 a b underlying3
 have hp0:∀ (u v:Value),(part 3 #[u,v] 0).run qp0 w=.ok u w:=fun u v=>by simp[part,isAgg,run_underlying underlying3]
 have hp1:∀ (u v:Value),(part 3 #[u,v] 1).run qp0 w=.ok v w:=fun u v=>by simp[part,isAgg,run_underlying underlying3]
 simp[Program.fieldsOf,underlying40,Op.eqFields,hs,hp0,hp1,hs 9998]
theorem ah8(e:En)(s t:Option Addr×Nat×Nat)(w:World)(h:Bs w s.1 s.2.1 s.2.2 e.data)(k:Bs w t.1 t.2.1 t.2.2 e.data):Calls qp0 49 #[.agg (sS (e,s)),.agg (sS (e,t))] w fun r w'=>r=.returned (.bool true)/\Below w.heap.size w w':=by
 obtain⟨k0,name,link,mode,uid,gid,user,group,sec,nano,data⟩:=e;obtain⟨a,n,c⟩:=s;obtain⟨b,m,d⟩:=t;simp only at h k;have hq:=aix sec nano;have hb2:=(((Below.refl w.heap.size w).alloc (aY _) (.cells (sS (⟨k0,name,link,mode,uid,gid,user,group,sec,nano,data⟩,(a,n,c))) 42)).alloc (by simp) (.cells (sS (⟨k0,name,link,mode,uid,gid,user,group,sec,nano,data⟩,(b,m,d))) 42));simp only[sS,ru] at hb2 ⊢;have HB:=ah hb2;have HH:=ah h;have HK:=ah k;have HSB:Hid (∀ w,Bs w a n c data->Bs w b m d data->Calls qp0 19 #[.slice a n c,.slice b m d] w fun e w'=>e=.returned (.bool true)/\Below w.heap.size w w'):=ah (fun w h1 h2=>by have:=ah9 a b n m c d data data w h1 h2;rw[uQ (rfl:data=data)] at this;exact this);clear hb2 h k;go_enter func49,ntmps49;go_wp2_with (go_at_call 19;(refine(HSB.out _ (by exact Below.bs HB.out HH.out) (by exact Below.bs HB.out HK.out)).mono ?_);rintro r w1 ⟨rfl,hb1⟩)
 go_ret;exact⟨rfl,Below.seq HB.out hb1⟩
theorem Ah{w:World}{b o:Nat}{x:EU}(h:w.rangeAt b o (fG x))(j:Nat)(hj:j<11):w.cell? ⟨b,o+j,none⟩=(sS x)[j]?:=by
 have hs:(sS x).size=11:=rfl;have e:(fG x)[j]? = (sS x)[j]?:=by simp[fG]
 have e2:(sS x)[j]? = some ((sS x)[j]'(by rw[hs];exact hj)):=mJ _;rw[h j _ (e.trans e2),e2]
theorem ah3(a b:Option Addr)(n m c d:Nat)(S T:List EU)(w:World)(ha:Qg w a n c S)(hb:Qg w b m d T)(he:S.map (·.1)=T.map (·.1)):Calls qp0 23 #[.slice a n c,.slice b m d] w fun r w'=>r=.returned (.bool true)/\Below w.heap.size w w':=by
 have hx:=ha.len;have hy:=hb.len;have c1:=ha.cap;have c2:=hb.cap;have m1:=ha.max;have m2:=hb.max;obtain rfl:n=m:=by rw[<-hx,<-hy];have:=congrArg List.length he;simpa using this
 have hn:((n:Int) != n)=false:=by simp
 have HX:=ah hx;have HY:=ah hy;have HA:=ah ha;have HB:=ah hb;have HE:=ah he;clear hx hy ha hb he;go_enter func23,ntmps23;go_wp2
 go_loopw [5] (fun i wr=>∃ k:Nat,k<=n/\i=.int .i64 k/\Hid (Below w.heap.size w wr)) (fun i _=>n-(intOf i).toNat)
 case atStart=>exact⟨0,M8 _,rfl,ah (Below.refl _ _)⟩
 case round =>
  obtain⟨k,hk,rfl,hbel⟩:=hrel;by_cases hlt:k<n
  .obtain⟨b1,o1,rfl,h1⟩:=(HA.out.below hbel.out).at k hlt;obtain⟨b2,o2,rfl,h2⟩:=(HB.out.below hbel.out).at k hlt;have hd1:=(HA.out.below hbel.out).acD k hlt;have hd2:=(HB.out.below hbel.out).acD k hlt;have hee:(S.getD k Zk).1=(T.getD k Zk).1:=by
    have l1:k<S.length:=by have:=HX.out;omega
    have l2:k<T.length:=by have:=HY.out;omega
    have:=congrArg (fun l=>l[k]?) HE.out;simpa[List.getD,kM l1,kM l2] using this
   generalize S.getD k Zk=x at *
   generalize T.getD k Zk=y at *
   obtain⟨e,s⟩:=x;obtain⟨e',t⟩:=y;simp only at hee hd1 hd2;subst hee;have HS:=ah (ah8 e s t (wr.drew) hd1 hd2);have HC:=ah (fun w' (hb:Below wr.heap.size wr w')=>ah8 e s t w' (Below.bs hb hd1) (Below.bs hb hd2));clear hd1 hd2;have g0:=Ah h1 0 (by decide);have f0:=Ah h2 0 (by decide);have g1:=Ah h1 1 (by decide);have f1:=Ah h2 1 (by decide);have g2:=Ah h1 2 (by decide);have f2:=Ah h2 2 (by decide);have g3:=Ah h1 3 (by decide);have f3:=Ah h2 3 (by decide);have g4:=Ah h1 4 (by decide);have f4:=Ah h2 4 (by decide);have g5:=Ah h1 5 (by decide);have f5:=Ah h2 5 (by decide);have g6:=Ah h1 6 (by decide);have f6:=Ah h2 6 (by decide);have g7:=Ah h1 7 (by decide);have f7:=Ah h2 7 (by decide);have g8:=Ah h1 8 (by decide);have f8:=Ah h2 8 (by decide);have g9:=Ah h1 9 (by decide);have f9:=Ah h2 9 (by decide);have g10:=Ah h1 10 (by decide);have f10:=Ah h2 10 (by decide);clear h1 h2;obtain⟨k0,name,link,mode,uid,gid,user,group,sec,nano,data⟩:=e;obtain⟨sa,sn,sc⟩:=s;obtain⟨ta,tn,tc⟩:=t
   simp only[sS,ru,List.getElem?_toArray,List.getElem?_cons_zero,List.getElem?_cons_succ,R4] at g0 f0 g1 f1 g2 f2 g3 f3 g4 f4 g5 f5 g6 f6 g7 f7 g8 f8 g9 f9 g10 f10 HS HC;go_wp2
   go_still_tail 8,(by kernel_rfl)
   change wpList _ _ _ _ _ wr.drew
   go_wp2_with (go_at_call 49;(refine HS.out.mono ?_);rintro r w3 ⟨rfl,hb3⟩)
   exact⟨⟨k+1,by omega,by go_num,ah (Below.seq (hbel.out.trans ((Below.refl _ _).drew)) hb3)⟩,by simp[intOf];omega⟩
  .obtain rfl:k=n:=by omega
   go_wp2
   go_ret;exact⟨rfl,hbel.out⟩
section
open Go.Conc
open Cc (tp)
namespace St
open Cc (BW fI okA gW)
open Sr (dW iM bU)
theorem Qj{w w':World}{B sz n:Nat}{e:TypeId}{v:Value}{xs:List Value}(h:w.ownsRow B e sz v n xs)(hb:fI w w'):w'.ownsRow B e sz v n xs:=Gr.gJ h fun b hbl=>hb.block b (h.lt b hbl).2
theorem kF.bJ{w w':World}{B n:Nat}{v:Value}{l:List UInt8}(h:kF w B v n l)(hb:fI w w'):kF w' B v n l:=h.kept fun b hbl=>hb.block b (h.own.lt b hbl).2
theorem Vf.keep{w y y':World}{R:Plain.Pz}{v:Value}(h:Vf w R v y)(hb:fI y y'):Vf w R v y':=by
 obtain⟨⟨x,n,cp,Q,h1,h2,h3,h4⟩,h5⟩:=h;exact⟨⟨x,n,cp,Q,h1,h2,Qj h3 hb,fun e he=>Qj (h4 e he) hb⟩,h5.seq hb⟩
theorem Vf.base{w w1 y:World}{R:Plain.Pz}{v:Value}(h:Vf w1 R v y)(hb:fI w w1):Vf w R v y:=by
 obtain⟨⟨x,n,cp,Q,h1,h2,h3,h4⟩,h5⟩:=h;exact⟨⟨x,n,cp,Q,h1,h2,World.ownsRow.mono h3 hb.size,fun e he=>World.ownsRow.mono (h4 e he) hb.size⟩,hb.seq h5⟩
def zPs:Array Value:=#[.slice none 0 0,.int .i64 0,.int .i64 0,.int .i64 0]
theorem rT{A:Act}{t:Nat}{v:Value}(h:t<A.tmps.size):(A.put (some t) v).tmps.getD t au=v:=gq h
theorem nk{A:Act}{t j:Nat}{v:Value}(h:j≠t):(A.put (some t) v).tmps.getD j au=A.tmps.getD j au:=getD_set_ne (Ao h)
theorem sH{o:Oper}(h:o.guard=none)(f:Nat->Option Bool):Region.wanted o f=true:=by unfold Region.wanted;rw[h]
end St
end
namespace Plain
theorem RH{d:List UInt8}{lim:kG}(h:eT lim=true):jA d lim=sgo d lim 0 bW.zero:=by unfold jA sgo;rw[if_pos h]
theorem Yw{d:List UInt8}{lim:kG}(h:eT lim=false):jA d lim=Qy:=by unfold jA;rw[h];rfl
theorem alb(d:List UInt8)(lim:kG):(jA d lim).off<=d.length:=by
 cases h:eT lim with
 | false=>rw[Yw h];exact M8 _
 | true=>rw[RH h];exact(ZT d lim 0 bW.zero (M8 _)).2.1
theorem ak1(x y:List UInt8)(lim:kG)(h1:(jA x lim).code=71)(h2:(jA x lim).off=x.length)(h3:(jA x lim).held=0):jA (x++y) lim=⟨(jA x lim).ents++(jA y lim).ents,(jA y lim).code,x.length+(jA y lim).off,(jA y lim).held⟩:=by
 have h:eT lim=true:=by
  cases h:eT lim with
  | false=>rw[Yw h] at h1;cases h1
  | true=>rfl
 simp only[RH h] at h1 h2 h3 ⊢;exact ali x y lim 0 bW.zero (M8 _) rfl h1 h2 h3
end Plain
namespace St
noncomputable def akI:Code:=Tryz.f6.body.getD .skip
noncomputable def ak2:Code:=match akI with|.seq _ (.seq _ (.seq _ (.seq _ (.seq _ (.seq _ (.seq _ (.seq _ c)))))))=>c|_=>.skip
def alC(a:Option Addr)(n c:Nat)(p q r:Nat)(f:Nat->Value):Array Value:=#[.slice a n c,f 1,f 2,f 3,f 4,f 5,f 6,pv p,pv q,f 9,pv r,f 11,f 12,f 13,f 14,f 15,f 16,f 17,f 18,f 19,f 20,f 21,f 22,f 23,f 24,f 25,f 26,f 27,f 28,f 29,f 30,f 31,f 32,f 33,f 34,f 35,f 36,f 37,f 38,f 39,f 40,f 41,f 42,f 43,f 44,f 45,f 46,f 47,f 48,f 49,f 50,f 51,f 52,f 53,f 54,f 55,f 56,f 57,f 58,f 59,f 60,f 61,f 62,f 63,f 64,f 65,f 66,f 67,f 68,f 69,f 70,f 71,f 72,f 73,f 74,f 75,f 76,f 77,f 78,f 79]
theorem alm{w0 w w4:World}{B:Nat}{a1 a2 a4:Option Addr}{n1 c1 n2 c2 c4:Nat}{L1:List En}{S1 T:List EU}(h1:akL w0 B L1 a1 n1 c1 S1 w)(h2:Qg w4 a2 n2 c2 T)(ho:w4.ownsRow B 42 11 (.slice a4 (n1+n2) c4) (n1+n2) (S1.flatMap fG++T.flatMap fG))(hg:w.grownBy w4 (Value.slice a1 n1 c1).ownBlock):Qg w4 a4 (n1+n2) c4 (S1++T):=by
 refine⟨by rw[List.flatMap_append];exact rP ho,fun x hx=>?_⟩;rcases UY.1 hx with hx|hx
 .exact rP (gJ (h1.dat x hx) fun b hb=>hg.block b ((h1.dat x hx).lt b hb).2 (fun q=>ak0 (h1.dat x hx) h1.own (by decide) b hb q.symm))
 .exact h2.dat x hx
theorem aln(a:Option Addr)(n c:Nat)(p q r:Nat)(P Q R:Plain.Pz)(hR:R=⟨P.ents++Q.ents,Q.code,n+Q.off,Q.held⟩)(hn:n<=140737488351232)(hqo:Q.off<=140737488351232)(x:Option Addr)(m cp:Nat)(S:List EU)(y:Option Addr)(o dp:Nat)(T:List EU)(z:Option Addr)(u ep:Nat)(U:List EU)(f:Nat->Value)(w:World)(hm:m+o<=1000000000000)(hd:∀ e∈S,e.2.2.1<=140737488355328)(hp:w.heap[p]? = some (.cells #[.slice x m cp,.int .i64 P.code,.int .i64 P.off,.int .i64 P.held] 30))(hq:w.heap[q]? = some (.cells #[.slice y o dp,.int .i64 Q.code,.int .i64 Q.off,.int .i64 Q.held] 30))(hr:w.heap[r]? = some (.cells #[.slice z u ep,.int .i64 R.code,.int .i64 R.off,.int .i64 R.held] 30))(hS:S.map (·.1)=P.ents)(hT:T.map (·.1)=Q.ents)(hU:U.map (·.1)=R.ents)(hE:Qg w x m cp S)(hF:Qg w y o dp T)(hG:Qg w z u ep U):ak2.wp qp0 (bodyPost qp0 Tryz.f6 fun e w'=>∃ v,e=.returned v/\v=.bool true/\Below w.heap.size w w') {tmps:=alC a n c p q r f,defers:=[]} w:=by
 have hol:=hF.len;have hml:=hE.len;have hmm:m<=1000000000000:=by omega
 have eR1:R.code=Q.code:=by rw[hR]
 have eR2:(R.off:Int)=n+Q.off:=by rw[hR];simp
 have eR3:R.held=Q.held:=by rw[hR]
 have eR4:R.ents=P.ents++Q.ents:=by rw[hR]
 have p0:w.cell? ⟨p,0,none⟩=some (.slice x m cp):=cell_of_row _ _ _ _ _ _ hp;have q0:w.cell? ⟨q,0,none⟩=some (.slice y o dp):=cell_of_row _ _ _ _ _ _ hq;have q1:w.cell? ⟨q,1,none⟩=some (.int .i64 Q.code):=cell_of_row _ _ _ _ _ _ hq;have q2:w.cell? ⟨q,2,none⟩=some (.int .i64 Q.off):=cell_of_row _ _ _ _ _ _ hq;have q3:w.cell? ⟨q,3,none⟩=some (.int .i64 Q.held):=cell_of_row _ _ _ _ _ _ hq;have r0:w.cell? ⟨r,0,none⟩=some (.slice z u ep):=cell_of_row _ _ _ _ _ _ hr;have r1:w.cell? ⟨r,1,none⟩=some (.int .i64 R.code):=cell_of_row _ _ _ _ _ _ hr;have r2:w.cell? ⟨r,2,none⟩=some (.int .i64 R.off):=cell_of_row _ _ _ _ _ _ hr;have r3:w.cell? ⟨r,3,none⟩=some (.int .i64 R.held):=cell_of_row _ _ _ _ _ _ hr;rw[eR1] at r1;rw[eR2] at r2;rw[eR3] at r3;have e1:(Q.code==Q.code)=true:=beq_self_eq_true _;have e2:IntKind.i64.wrap ((n:Int)+(Q.off:Int))=(n:Int)+(Q.off:Int):=by rw[IntKind.wrap_i64];omega
 have e3:(((n:Int)+(Q.off:Int))==(n:Int)+(Q.off:Int))=true:=beq_self_eq_true _;have e4:(Q.held==Q.held)=true:=beq_self_eq_true _;have HE:=ah hE;have HF:=ah hF;have HG:=ah hG;have HD:=ah hd;have HMM:=ah hmm;have HML:=ah hml;have HU:=ah (hU.trans eR4);have HS:=ah hS;have HT:=ah hT;have HM:=ah hm;have HC:=ah (And.intro q0 (And.intro q1 (And.intro q2 (And.intro q3 (And.intro r0 (And.intro r1 (And.intro r2 r3)))))));clear hp hq hr hE hF hG hS hT hU hR eR1 eR2 eR3 eR4 hd hol hml hmm hm;unfold alC pv;simp only[ak2,akI,Tryz.f6,Option.getD_some];go_wp2_with (first|(go_at_call 22;(refine(akO x m cp S w HE.out HMM.out HD.out).mono ?_);rintro e w1 ⟨a2,n2,c2,S8,rfl,hn2⟩;have hb1:=hn2.bJ;have q0':=Below.keeps hb1 _ _ q0;have q1':=Below.keeps hb1 _ _ q1;have q2':=Below.keeps hb1 _ _ q2;have q3':=Below.keeps hb1 _ _ q3;have r0':=Below.keeps hb1 _ _ r0;have r1':=Below.keeps hb1 _ _ r1;have r2':=Below.keeps hb1 _ _ r2;have r3':=Below.keeps hb1 _ _ r3;have alS:n2=m:=(by have h1:=hn2.ens.len;have h2:=congrArg List.length hn2.map;simp at h2;have h3:=HML.out;omega);subst alS;have UL:=ah hn2;have HB1:=ah hb1;clear hn2 hb1 q0 q1 q2 q3 r0 r1 r2 r3)|(at_builtin;refine nJ rfl _ _ 27 rfl w.heap.size 42 _ 11 136 underlying27 FW rfl (by decide) (by decide) rfl UL.out.own rfl (HF.out.below HB1.out).sl (aeg T) (by have:=HM.out;omega) UL.out.bJ.size ?_;intro a8 c8 w8 ho8 hg8;have Zi:=below_app HB1.out UL.out.own hg8 (aY _) UL.out.bJ.size;have alW:=Below.keeps Zi _ _ HC.out.1;have alX:=Below.keeps Zi _ _ HC.out.2.1;have alZ:=Below.keeps Zi _ _ HC.out.2.2.1;have al1:=Below.keeps Zi _ _ HC.out.2.2.2.1;have al0:=Below.keeps Zi _ _ HC.out.2.2.2.2.1;have al2:=Below.keeps Zi _ _ HC.out.2.2.2.2.2.1;have al3:=Below.keeps Zi _ _ HC.out.2.2.2.2.2.2.1;have alY:=Below.keeps Zi _ _ HC.out.2.2.2.2.2.2.2;have HE8:=ah (alm UL.out (HF.out.below Zi) ho8 hg8);have HB8:=ah Zi;clear ho8 hg8 Zi q0' q1' q2' q3' r0' r1' r2' r3')|(go_at_call 23;refine(ah3 z a8 u (n2+o) ep c8 U (S8++T) w8 (HG.out.below HB8.out) HE8.out (by rw[HU.out,qbH,UL.out.map,HS.out,HT.out])).mono ?_;rintro r w9 ⟨rfl,Xi⟩))
 go_ret;exact⟨_,rfl,rfl,Below.seq HB8.out Xi⟩
end St
section
open Go.Conc
theorem adN{w:World}{B n c:Nat}{a:Option Addr}{S:List EU}(h:w.ownsRow B 42 11 (.slice a n c) n (S.flatMap fG))(hd:∀ e∈S,iw w B e):Qg w a n c S:=⟨rP h,fun e he=>rP (hd e he)⟩
section
variable {P:Program}{o:Oper}{a:Act}{ops:Array Oper}{rest:List Oper}{w:World}{Q:Exit->Act->World->Prop}
end
end
section
open Go.Conc
open Cc (tp)
namespace St
open Cc (BW fI)
theorem ait{f:FuncId}{fn:Func}(hf:qp0.funcs[f]? = some fn)(hi:qp0.inits.idxOf? f=none)(hres:fn.results=#[.tmp 6]){c:Code}{id:Nat}{o:Oper}(hc:c=.seq (.region id #[o] false) .ret)(hg:o.guard=none)(hop:o.op=.assign (.const (.bool true)))(hd:o.dst=some 6){A:Act}(hA:A.defers=[])(hs:6<A.tmps.size){k:List Item}{w y:World}(hb:fI w y):BW qp0 (G ((base f).at A (.code c::k)) []) y (Cc.Ends qp0 fun v w'=>v=.bool true/\fI w w'):=by
 obtain⟨T,D⟩:=A;obtain rfl:D=[]:=hA;subst hc;refine BW.seq ?_;refine BW.region ?_;refine BW.move (o:=o) (i:=0) (rest:=[]) rfl (sH hg _) (fun h=>by cases h) (.inr hop) ?_;refine BW.rend ?_;refine BW.ret ?_;rw[hd];exact BW.ends hf hi (fun w=>results_tmp hres _ _ w) fun d=>⟨rT (A:=⟨T,[]⟩) hs,hb.tp _ _⟩
end St
end
section
open Go.Conc
namespace Cc
def aiz:Nat->List (List Bool)
 | 0=>[[]]
 | n+1=>(aiz n).flatMap fun l=>[true::l,false::l]
theorem aib:∀ l:List Bool,l∈aiz l.length
 | []=>by simp[aiz]
 | b::l=>by
  simp only[oH,aiz,List.mem_flatMap];refine⟨l,aib l,?_⟩
  cases b <;> simp
def aiJ(ops:Array Oper)(deps:List (List Nat)):Bool :=(aiz ops.size).all fun l=>(Region.ready .any ops l.toArray).all (fun i=>decide (i<ops.size)&&!(l.getD i true)&&(deps.getD i []).all fun j=>l.getD j false)&&(!(Region.ready .any ops l.toArray).isEmpty||l.all id)
theorem count_set:∀ (l:List Bool)(i:Nat),l.getD i true=false->(l.set i true).count false+1=l.count false
 | [],i,h=>by simp at h
 | b::l,0,h=>by
  simp at h;subst h;simp
 | b::l,i+1,h=>by
  have:=count_set l i (by simpa using h)
  cases b <;> simp <;> omega
section
variable {P:Program}{ops:Array Oper}{b:Frame}{k:List Item}{cs:List Frame}{Φ:Goroutine->World->Prop}
theorem aiu(deps:List (List Nat))(hc:aiJ ops deps=true)(I:List Bool->Act->World->Prop)(hs:∀ l i A y rest,l.length=ops.size->I l A y->i<ops.size->l.getD i true=false->(∀ j∈deps.getD i [],l.getD j false=true)->(∀ A' y',I (l.set i true) A' y'->BW P (G (b.at A' (.inRegion ops rest::k)) cs) y' Φ)->BW P (G (b.at A (.inRegion ops (i::rest)::k)) cs) y Φ)(he:∀ l A y,l.length=ops.size->I l A y->l.all id=true->BW P (G (b.at A (.inRegion ops []::k)) cs) y Φ):∀ (fuel:Nat)(l:List Bool)(A:Act)(y:World),l.length=ops.size->l.count false<=fuel->I l A y->gW P .any ops b k cs Φ fuel l.toArray A y:=by
 have key:∀ l:List Bool,l.length=ops.size->(∀ i∈Region.ready .any ops l.toArray,i<ops.size/\l.getD i true=false/\∀ j∈deps.getD i [],l.getD j false=true)/\(Region.ready .any ops l.toArray=[]->l.all id=true):=by
  intro l hl;unfold aiJ at hc;rw[Ej] at hc;have h:=hc l (by rw[<-hl];exact aib l);rw[fE,Ej] at h;refine⟨fun i hi=>?_,fun hr=>?_⟩
  .have:=h.1 i hi;rw[fE,fE,Ej,decide_eq_true_eq] at this;exact⟨this.1.1,by simpa using this.1.2,this.2⟩
  .have:=h.2;rw[hr] at this;simpa using this
 intro fuel
 induction fuel with
 | zero =>
  intro l A y hl hn hI;unfold gW;refine he l A y hl hI ?_;have h0:l.count false=0:=by omega
  rw[List.count_eq_zero] at h0;rw[Ej];intro x hx
  cases x with
  | true=>rfl
  | false=>exact absurd hx h0
 | succ fuel ih =>
  intro l A y hl hn hI;obtain⟨k1,k2⟩:=key l hl;unfold gW;refine⟨fun hr=>he l A y hl hI (k2 hr),fun i hi rest K=>?_⟩;obtain⟨i1,i2,i3⟩:=k1 i hi;refine hs l i A y rest hl hI i1 i2 i3 fun A' y' hI'=>K A' y' ?_
  rw[eu];have:=count_set l i i2;exact ih (l.set i true) A' y' (by simpa using hl) (by omega) hI'
structure Bas(w:World)(T:Array Value)(n:Nat)(dst:Nat->Nat)(A:Act)(y:World):Prop where
 df:A.defers=[]
 size:A.tmps.size=T.size
 old:∀ j,(∀ i,i<n->j≠dst i)->A.tmps.getD j au=T.getD j au
 bJ:fI w y
theorem aiY{rid:Nat}{w:World}{T:Array Value}{n:Nat}(hm:P.follows .mixedOrders=true)(hn:ops.size=n+1)(deps:List (List Nat))(hc:aiJ ops deps=true)(hlast:∀ j,j<n->j∈deps.getD n [])(hsm:∀ i,i<n->∀ j∈deps.getD i [],j<n)(dst:Nat->Nat)(hd:∀ i,i<n->dst i<T.size)(hinj:∀ i,i<n->∀ j,j<n->i≠j->dst i≠dst j)(F:Nat->Value->World->Prop)(hF:∀ i v y y',F i v y->fI y y'->F i v y')(Fin:Act->World->Prop)(hs:∀ i,i<n->∀ A y rest,Bas w T n dst A y->(∀ j∈deps.getD i [],F j (A.tmps.getD (dst j) au) y)->(∀ v y',fI y y'->F i v y'->BW P (G (b.at (A.put (some (dst i)) v) (.inRegion ops rest::k)) cs) y' Φ)->BW P (G (b.at A (.inRegion ops (i::rest)::k)) cs) y Φ)(hl:∀ A y rest,Bas w T n dst A y->(∀ j,j<n->F j (A.tmps.getD (dst j) au) y)->(∀ A' y',Fin A' y'->BW P (G (b.at A' (.inRegion ops rest::k)) cs) y' Φ)->BW P (G (b.at A (.inRegion ops (n::rest)::k)) cs) y Φ)(he:∀ A y,Fin A y->BW P (G (b.at A (.inRegion ops []::k)) cs) y Φ):BW P (G (b.at ⟨T,[]⟩ (.code (.region rid ops true)::k)) cs) w Φ:=by
 refine BW.draw hm ?_;have hrep:Array.replicate ops.size false=(List.replicate ops.size false).toArray:=by simp
 rw[hrep];refine aiu deps hc (fun l A y=>if l.getD n false=true then Fin A y/\l.all id=true else Bas w T n dst A y/\∀ i,i<n->l.getD i false=true->F i (A.tmps.getD (dst i) au) y) ?_ ?_ ops.size (List.replicate ops.size false) ⟨T,[]⟩ w (by simp) (by simp) ?_
 .intro l i A y rest hll hI hi hfi aij K;by_cases hin:i=n
  .subst hin;have hnf:l.getD i false=false:=by
    rw[List.getD_eq_getElem?_getD] at hfi ⊢;have:i<l.length:=by omega
    rw[kM this] at hfi ⊢;exact hfi
   simp only[hnf,jI,if_false] at hI;refine hl A y rest hI.1 (fun j hj=>hI.2 j hj (aij j (hlast j hj))) fun A' y' hf=>K A' y' ?_
   have:(l.set i true).getD i false=true:=by simp[List.getD,List.getElem?_set,show i<l.length by omega]
   simp only[this,if_true];refine⟨hf,?_⟩;rw[Ej];intro x hx;obtain⟨j,hj,rfl⟩:=qbz hx;rw[List.getElem_set];split
   .rfl
   .rename_i hne
    have hjl:j<l.length:=by simpa using hj
    have:=aij j (hlast j (by omega));rw[List.getD_eq_getElem?_getD,kM hjl] at this;exact this
  .have hi':i<n:=by omega
   by_cases hfull:l.getD n false=true
   .
    exfalso;simp only[hfull,if_true] at hI;have hall:=hI.2;rw[Ej] at hall;have hlt:i<l.length:=by omega
    rw[List.getD_eq_getElem?_getD,kM hlt] at hfi;have:=hall _ (VE hlt);simp only[Option.getD_some] at hfi;rw[hfi] at this
    cases this
   .simp only[hfull,if_false] at hI;obtain⟨hB,hfs⟩:=hI;refine hs i hi' A y rest hB (fun j hj=>hfs j (hsm i hi' j hj) (aij j hj)) fun v y' hb hFv=>K _ y' ?_
    have hgn:(l.set i true).getD n false=l.getD n false:=by
     simp[List.getD,List.getElem?_set,hin]
    simp only[hgn,hfull,if_false];have hlt:dst i<A.tmps.size:=by rw[hB.size];exact hd i hi'
    refine⟨⟨hB.df,by show(A.tmps.setIfInBounds (dst i) v).size=_;rw[qb5,hB.size],fun j hj=>?_,hB.bJ.seq hb⟩,fun j hj hlj=>?_⟩
    .rw[St.nk (hj i hi')];exact hB.old j hj
    .by_cases hji:j=i
     .subst hji;rw[St.rT hlt];exact hFv
     .rw[St.nk (hinj j hj i hi' hji)];refine hF j _ y y' (hfs j hj ?_) hb;rw[List.getD_eq_getElem?_getD,List.getElem?_set_ne (Ao hji),<-List.getD_eq_getElem?_getD] at hlj;exact hlj
 .intro l A y hll hI hall;have:l.getD n false=true:=by
   rw[Ej] at hall;have hlt:n<l.length:=by omega
   rw[List.getD_eq_getElem?_getD,kM hlt];exact hall _ (VE hlt)
  simp only[this,if_true] at hI;exact he A y hI.1
 .have hr:∀ i,(List.replicate ops.size false).getD i false=false:=fun i=>by
   simp only[List.getD,List.getElem?_replicate];split <;> rfl
  have:(List.replicate ops.size false).getD n false=false:=hr n;simp only[this,jI,if_false];refine⟨⟨rfl,rfl,fun _ _=>rfl,.refl w⟩,fun i hi h=>?_⟩;rw[hr i] at h
  cases h
end
end Cc
end
section
open Go.Conc
open Cc (tp)
namespace St
open Cc (BW fI okA)
open Sr (dW iM bU)
structure Slots where
 t1:Nat
 t2:Nat
 t4:Nat
 t5:Nat
 t6:Nat
def Slots.d(s:Slots):Nat->Nat:=fun i=>[s.t1,s.t2,s.t4,s.t5,s.t6].getD i 0
def cpF(w:World)(src:Value)(data:List UInt8)(lim:kG):Nat->Value->World->Prop
 | 0,v,_=>v=src
 | 1,v,y=>∃ da n dc,v=.slice da n dc/\kF y w.heap.size (.slice da n dc) n data
 | 2,v,_=>v=nV lim
 | 3,v,y=>Vf w (Plain.jA data lim) v y
 | 4,v,y=>∃ q,v=pv q/\y.heap[q]? = some (.cells zPs 30)/\w.heap.size<=q
 | _,_,_=>True
theorem aiD{w:World}{src:Value}{data:List UInt8}{lim:kG}(i:Nat)(v:Value)(y y':World)(h:cpF w src data lim i v y)(hb:fI y y'):cpF w src data lim i v y':=by
 rcases i with _|_|_|_|_|i
 .exact h
 .obtain⟨da,m,dc,h1,h2⟩:=h;exact⟨da,m,dc,h1,kF.bJ h2 hb⟩
 .exact h
 .exact Vf.keep h hb
 .obtain⟨q,h1,h2,h3⟩:=h;exact⟨q,h1,(hb.block q (fT.1 h2).1).trans h2,h3⟩
 .trivial
def cpN:List (List Nat):=[[],[0],[],[1,2],[],[0,1,2,3,4]]
structure ae5(ops:Array Oper)(s:Slots)(xs lp:Nat):Prop where
 o0:∃ o,ops[0]? = some o/\o.guard=none/\o.dst=some s.t1/\o.op=.move (.tmp xs)
 o1:∃ o ats,ops[1]? = some o/\o.guard=none/\o.dst=some s.t2/\o.op=.call {callee:=.value (.func 20),args:=#[.tmp s.t1],argTypes:=ats}
 o2:∃ o,ops[2]? = some o/\o.guard=none/\o.dst=some s.t4/\o.op=.load 24 (.tmp lp)
 o3:∃ o ats,ops[3]? = some o/\o.guard=none/\o.dst=some s.t5/\o.op=.call {callee:=.value (.func 16),args:=#[.tmp s.t2,.tmp s.t4],argTypes:=ats}
 o4:∃ o,ops[4]? = some o/\o.guard=none/\o.dst=some s.t6/\o.op=.alloc 30
 o5:∃ o,ops[5]? = some o/\o.guard=none/\o.dst=none/\o.op=.store 30 (.tmp s.t6) (.tmp s.t5)
 size:ops.size=6
 rdy:Cc.aiJ ops cpN=true
structure CpF(d:Nat->Nat)(m t6:Nat)(w:World)(T:Array Value)(R:Plain.Pz)(A:Act)(y:World):Prop where
 df:A.defers=[]
 size:A.tmps.size=T.size
 old:∀ j,(∀ i,i<m->j≠d i)->A.tmps.getD j au=T.getD j au
 bJ:fI w y
 ex:∃ (q:Nat)(x:Option Addr)(n cp:Nat)(Q:List EU),A.tmps.getD t6 au=pv q/\y.heap[q]? = some (.cells #[.slice x n cp,.int .i64 R.code,.int .i64 R.off,.int .i64 R.held] 30)/\w.heap.size<=q/\Q.map (·.1)=R.ents/\y.ownsRow w.heap.size 42 11 (.slice x n cp) n (Q.flatMap fG)/\∀ e∈Q,iw y w.heap.size e
section
variable {ε:Nat×Nat}{Φ:Goroutine->World->Prop}{b:Frame}{k:List Item}{cs:List Frame}{w:World}{ops:Array Oper}{s:Slots}{xs lp:Nat}{T:Array Value}{data:List UInt8}{lim:kG}
theorem aik{w y:World}{R:Plain.Pz}{A:Act}{rest:List Nat}{o:Oper}{i t5 t6 q:Nat}{v:Value}(h0:ops[i]? = some o)(hg:o.guard=none)(hd:o.dst=none)(hop:o.op=.store 30 (.tmp t6) (.tmp t5))(hk:b.kind≠.early)(hb:fI w y)(hq1:A.eval (.tmp t6)=pv q)(hq2:y.heap[q]? = some (.cells zPs 30))(hq3:w.heap.size<=q)(hv:A.eval (.tmp t5)=v)(hp:Vf w R v y)(K:∀ y',fI w y'->(∃ (x:Option Addr)(n cp:Nat)(Q:List EU),y'.heap[q]? = some (.cells #[.slice x n cp,.int .i64 R.code,.int .i64 R.off,.int .i64 R.held] 30)/\w.heap.size<=q/\Q.map (·.1)=R.ents/\y'.ownsRow w.heap.size 42 11 (.slice x n cp) n (Q.flatMap fG)/\∀ e∈Q,iw y' w.heap.size e)->BW qp0 (G (b.at A (.inRegion ops rest::k)) cs) y' Φ):BW qp0 (G (b.at A (.inRegion ops (i::rest)::k)) cs) y Φ:=by
 obtain⟨⟨x,n,cp,Q,rfl,hQ,hown,hdt⟩,_⟩:=hp;have hqv:A.eval (.tmp t6)=.pointer (some ⟨q,0,none⟩):=hq1;refine Cc.BW.TV au (Rw:=fun z=>RL q y z/\z.heap[q]? = some (.cells #[.slice x n cp,.int .i64 R.code,.int .i64 R.off,.int .i64 R.held] 30)) LG h0 hk (by rw[hop];rfl) (fun τ d=>wpList_store_row hg _ _ _ hop q hqv _ hv _ 30 hq2 rfl (by kernel_rfl) (by intro u hu;simp at hu;rcases hu with rfl|rfl|rfl|rfl <;> rfl) ⟨rfl,rfl,⟨rfl,rfl,by rw[size_setRow];exact aY _,fun b hb hne=>setRow_other _ _ _ _ hne⟩,setRow_heap _ _ _ _ _ _ hq2⟩) (fun w' τ d hr=>⟨hr.1.tp τ d,hr.2⟩) fun z hz=>?_
 obtain⟨hb2,hrow⟩:=hz;have keep:∀ {B sz m:Nat}{e:TypeId}{u:Value}{xs:List Value},y.ownsRow B e sz u m xs->e≠30->z.ownsRow B e sz u m xs:=fun ho hne=>Gr.gJ ho fun b hb3=>hb2.block b (ho.lt b hb3).2 fun e1=>Gr.aN ho hq2 hne (by rw[hb3];exact congrArg some e1)
 rw[hd];refine K z ⟨hb2.os.trans hb.os,rfl,hb2.out.trans hb.output,tT hb.size hb2.size,fun g hg2=>?_⟩ ⟨x,n,cp,Q,hrow,hq3,hQ,keep hown (by decide),fun e he=>keep (hdt e he) (by decide)⟩;have hg2:g<w.heap.size:=hg2;have hyw:w.heap.size<=y.heap.size:=hb.size;exact(hb2.block g (by omega) (by omega)).trans (hb.block g hg2)
theorem aiv{A:Act}{y:World}{rest:List Nat}{o:Oper}{i lp lb:Nat}(h0:ops[i]? = some o)(hg:o.guard=none)(hop:o.op=.load 24 (.tmp lp))(hk:b.kind≠.early)(hv:A.eval (.tmp lp)=pv lb)(hrow:y.heap[lb]? = some (.cells #[.int .i64 lim.name,.int .i64 lim.iP] 24))(K:∀ y',fI y y'->BW qp0 (G (b.at (A.put o.dst (nV lim)) (.inRegion ops rest::k)) cs) y' Φ):BW qp0 (G (b.at A (.inRegion ops (i::rest)::k)) cs) y Φ:=by
 have hv:A.eval (.tmp lp)=.pointer (some ⟨lb,0,none⟩):=hv;refine Cc.BW.TV (nV lim) (Rw:=fun z=>∃ τ d,z=tp y τ d) LG h0 hk (by rw[hop];rfl) (fun τ d=>?_) (fun w' τ d hr=>⟨τ,d,by obtain⟨_,_,rfl⟩:=hr;rfl⟩) fun y2 hr=>?_
 .refine cK hg _ _ hop lb 0 hv #[.int .i64 lim.name,.int .i64 lim.iP] _ (fun j v hj=>?_) underlying24 rfl (by kernel_rfl) ⟨rfl,rfl,τ,d,rfl⟩;rw[lU,cell_of_row _ _ _ _ _ _ (show(tp y τ d).heap[lb]? = _ from hrow),<-qaV];exact hj
 obtain⟨τ,d,rfl⟩:=hr;exact K _ ((fI.refl y).tp τ d)
theorem aiT{A:Act}{w y:World}{rest:List Nat}{o:Oper}{i t:Nat}{ats:Array TypeId}{a0:Option Addr}{n0 c0:Nat}(h0:ops[i]? = some o)(hg:o.guard=none)(hop:o.op=.call {callee:=.value (.func 20),args:=#[.tmp t],argTypes:=ats})(hk:b.kind≠.early)(hv:A.eval (.tmp t)=.slice a0 n0 c0)(hby:fI w y)(hdat:Bs w a0 n0 c0 data)(hn0:n0<=140737488351232)(K:∀ y' da n dc,kF y' y.heap.size (.slice da n dc) n data->fI y y'->BW qp0 (G (b.at (A.put o.dst (.slice da n dc)) (.inRegion ops rest::k)) cs) y' Φ):BW qp0 (G (b.at A (.inRegion ops (i::rest)::k)) cs) y Φ:=by
 refine BW.call (Rr:=fun v w'=>∃ da n dc,v=.slice da n dc/\kF w' y.heap.size (.slice da n dc) n data/\fI y w') h0 (sH hg _) hk hop okA (by kernel_rfl) func20 rfl (vs:=#[.slice a0 n0 c0]) (by simp[hv]) (fun τ d=>(Ku a0 n0 c0 data (tp y τ d) ((hby.tp τ d).keeps.bs hdat) (by omega)).mono fun e w' hq=>by
  obtain⟨x,n,c,rfl,h1,h2⟩:=hq;exact⟨_,rfl,x,n,c,rfl,h1,.pR h2⟩) (fun v w' τ d hq=>by
  obtain⟨x,n,c,rfl,h1,h2⟩:=hq;exact⟨x,n,c,rfl,h1.kept fun _ _=>rfl,h2.tp τ d⟩) fun v y2 hv2=>?_
 obtain⟨da,n,dc,rfl,ho,hb⟩:=hv2;exact K y2 da n dc ho hb
theorem aiP{A:Act}{y:World}{rest:List Nat}{o:Oper}{i:Nat}(h0:ops[i]? = some o)(hg:o.guard=none)(hop:o.op=.alloc 30)(hk:b.kind≠.early)(K:∀ y',fI y y'->y'.heap[y.heap.size]? = some (.cells zPs 30)->BW qp0 (G (b.at (A.put o.dst (pv y.heap.size)) (.inRegion ops rest::k)) cs) y' Φ):BW qp0 (G (b.at A (.inRegion ops (i::rest)::k)) cs) y Φ :=Cc.BW.TV (pv y.heap.size) (Rw:=fun z=>fI y z/\z.heap[y.heap.size]? = some (.cells zPs 30)) LG h0 hk (by rw[hop];rfl) (fun τ d=>bV hg _ hop _ Ee ⟨rfl,rfl,.pR (τ:=τ) (d:=d) ((Below.refl _ (tp y τ d)).alloc (aY _) _),heap_alloc_new _ _⟩) (fun w' τ d hr=>⟨hr.1.tp τ d,hr.2⟩) fun y2 hr=>K y2 hr.1 hr.2
theorem Tw{id:Nat}(hO:ae5 ops s xs lp)(hs:∀ i,i<5->s.d i<T.size)(hj:∀ i,i<5->∀ j,j<5->i≠j->s.d i≠s.d j)(hx:∀ i,i<5->xs≠s.d i)(hlp:∀ i,i<5->lp≠s.d i)(hk:b.kind≠.early){a0:Option Addr}{n0 c0 lb:Nat}{ev:Value}{w0:World}(hsrc:T.getD xs au=.slice a0 n0 c0)(hdat:Bs w0 a0 n0 c0 data)(hn0:n0<=140737488351232)(hlim:T.getD lp au=pv lb)(hlb:w.heap[lb]? = some (.cells #[.int .i64 lim.name,.int .i64 lim.iP] 24))(hml:uF w0)(her:eO w0 ev)(hpw:lV w0){D:Nat->Prop}(hcl:bU qp0 (dW ε) (fun _=>False) D #[] w0)(hbw:fI w0 w)(hn:∀ A y,CpF s.d 5 s.t6 w T (Plain.jA data lim) A y->BW qp0 (G (b.at A k) cs) y Φ):BW qp0 (G (b.at ⟨T,[]⟩ (.code (.region id ops true)::k)) cs) w Φ:=by
 refine Cc.aiY (n:=5) (by kernel_rfl) hO.size cpN hO.rdy (by decide) (by decide) s.d hs hj (cpF w (.slice a0 n0 c0) data lim) aiD (CpF s.d 5 s.t6 w T (Plain.jA data lim)) ?_ ?_ fun A z hF=>BW.rend (hn A z hF)
 .intro i hi A y rest hB aij K;have hby:fI w0 y:=hbw.seq hB.bJ;rcases (by omega:i=0\/i=1\/i=2\/i=3\/i=4) with rfl|rfl|rfl|rfl|rfl
  .obtain⟨o,h0,hg,hd,hop⟩:=hO.o0;refine BW.move h0 (sH hg _) hk (.inl hop) ?_;rw[hd];exact K _ _ (.refl y) ((hB.old xs hx).trans hsrc)
  .obtain⟨o,ats,h0,hg,hd,hop⟩:=hO.o1;refine aiT h0 hg hop hk (aij 0 (by decide)) hby hdat hn0 fun y2 da n dc ho hb=>?_
   rw[hd];exact K _ _ hb ⟨da,n,dc,rfl,World.ownsRow.mono ho.own hB.bJ.size,ho.cl⟩
  .obtain⟨o,h0,hg,hd,hop⟩:=hO.o2;refine aiv h0 hg hop hk ((hB.old lp hlp).trans hlim) ((hB.bJ.block lb (fT.1 hlb).1).trans hlb) fun y2 hb=>?_
   rw[hd];exact K _ _ hb rfl
  .obtain⟨o,ats,h0,hg,hd,hop⟩:=hO.o3;obtain⟨da,n,dc,hv,ho⟩:=aij 1 (by decide);have hln:=Bh ho.own;have hl0:=hdat.len;obtain⟨D',hst,_⟩:=CQ hcl hby ho.cl (fun g hg=>tT hbw.size (ho.own.lt g hg).1);refine JX (ε:=ε) (lim:=lim) (data:=data) h0 (sH hg _) hk hop hv (aij 2 (by decide)) (OY ho.own) (by omega) (xP hby hml) (tH hby her) (xW hby hpw) hst fun v y2 hp=>?_
   rw[hd];exact K _ _ hp.bJ (Vf.base hp hB.bJ)
  .obtain⟨o,h0,hg,hd,hop⟩:=hO.o4;refine aiP h0 hg hop hk fun y2 hb hr=>?_
   rw[hd];exact K _ _ hb ⟨_,rfl,hr,hB.bJ.size⟩
 .intro A y rest hB hall K;obtain⟨o,h0,hg,hd,hop⟩:=hO.o5;obtain⟨q,hq1,hq2,hq3⟩:=hall 4 (by decide);refine aik h0 hg hd hop hk hB.bJ hq1 hq2 hq3 rfl (hall 3 (by decide)) fun y2 hb hex=>?_
  exact K _ _ ⟨hB.df,hB.size,hB.old,hb,q,by obtain⟨x,n,cp,Q,hex⟩:=hex;exact⟨x,n,cp,Q,hq1,hex⟩⟩
end
end St
end
section
open Go.Conc
open Cc (tp)
namespace St
open Cc (BW fI okA u7)
open Sr (dW iM bU)
def al4(v0 v1 v2 v5 v6 v12 v13:Value):Array Value:=#[v0,v1,v2,au,au,v5,v6,au,au,au,au,au,v12,v13,au,au,au,au,au,au,au,au,au,au,au,au,au,au,au,au,au,au,au,au,au,au,au,au,au,au,au,au,au,au,au,au,au,au,au,au,au,au,au,au,au,au,au,au,au,au,au,au,au,au,au,au,au,au,au,au,au,au,au,au,au,au,au,au,au,au]
def gt(t:Array Value)(i:Nat):Value:=t.getD i au
theorem aly(a:Option Addr)(n c:Nat)(a2:Option Addr)(n2 c2:Nat)(lim:kG):Frame.enter qp0 6 #[.slice a n c,.slice a2 n2 c2,nV lim] .normal=(base 6).at ⟨#[.slice a n c,.slice a2 n2 c2,nV lim]++Array.replicate 77 au,[]⟩ [.code akI]:=by
 have hbody:Tryz.f6.body=some akI:=by simp only[akI,Tryz.f6,Option.getD_some]
 have hnt:Tryz.f6.ntmps=80:=by kernel_rfl
 simp[Frame.enter,Frame.at,base,func6,hbody,hnt]
theorem alQ(a:Option Addr)(n c:Nat)(a2:Option Addr)(n2 c2:Nat)(lim:kG):(#[.slice a n c,.slice a2 n2 c2,nV lim]:Array Value)++Array.replicate 77 au=al4 (.slice a n c) (.slice a2 n2 c2) (nV lim) au au au au:=by kernel_rfl
theorem alA{t:Array Value}(h:t.size=80):t=#[gt t 0,gt t 1,gt t 2,gt t 3,gt t 4,gt t 5,gt t 6,gt t 7,gt t 8,gt t 9,gt t 10,gt t 11,gt t 12,gt t 13,gt t 14,gt t 15,gt t 16,gt t 17,gt t 18,gt t 19,gt t 20,gt t 21,gt t 22,gt t 23,gt t 24,gt t 25,gt t 26,gt t 27,gt t 28,gt t 29,gt t 30,gt t 31,gt t 32,gt t 33,gt t 34,gt t 35,gt t 36,gt t 37,gt t 38,gt t 39,gt t 40,gt t 41,gt t 42,gt t 43,gt t 44,gt t 45,gt t 46,gt t 47,gt t 48,gt t 49,gt t 50,gt t 51,gt t 52,gt t 53,gt t 54,gt t 55,gt t 56,gt t 57,gt t 58,gt t 59,gt t 60,gt t 61,gt t 62,gt t 63,gt t 64,gt t 65,gt t 66,gt t 67,gt t 68,gt t 69,gt t 70,gt t 71,gt t 72,gt t 73,gt t 74,gt t 75,gt t 76,gt t 77,gt t 78,gt t 79]:=by
 have e:t=((List.range 80).map (gt t)).toArray:=by
  apply TS
  .simp[h]
  .intro i hi1 hi2;simp[gt,hi1]
 exact e
def alx(a:Option Addr)(n c:Nat)(a2:Option Addr)(n2 c2:Nat)(lim:kG)(N:Nat):Array Value:=al4 (.slice a n c) (.slice a2 n2 c2) (nV lim) (pv N) (.bool false) au au
def alI(a:Option Addr)(n c:Nat)(a2:Option Addr)(n2 c2:Nat)(lim:kG)(N:Nat):Array Value:=al4 (.slice a n c) (.slice a2 n2 c2) (nV lim) (pv N) (.bool false) (.bool true) (.bool false)
noncomputable def akM:Code:=match akI with|.seq _ (.seq _ c)=>c|_=>.skip
section
variable {ε:Nat×Nat}
theorem als(a:Option Addr)(n c:Nat)(a2:Option Addr)(n2 c2:Nat)(lim:kG)(w:World)(ev:Value)(hml:uF w)(her:eO w ev)(hpw:lV w)(hbr:EZ w){D:Nat->Prop}(hcl:bU qp0 (dW ε) (fun _=>False) D #[] w)(K:∀ w2,fI w w2->w2.heap[w.heap.size]? = some (.cells #[.int .i64 lim.name,.int .i64 lim.iP] 24)->BW qp0 (G ((base 6).at ⟨alI a n c a2 n2 c2 lim w.heap.size,[]⟩ [.code akM]) []) w2 (Cc.Ends qp0 fun v w'=>v=.bool true/\fI w w')):BW qp0 (G (Frame.enter qp0 6 #[.slice a n c,.slice a2 n2 c2,nV lim] .normal) []) w (Cc.Ends qp0 fun v w'=>v=.bool true/\fI w w'):=by
 rw[aly,alQ];simp only[akI,Tryz.f6,Option.getD_some];refine BW.seq ?_;apply Cc.BW.Jj (hP:=LG) (hk:=by decide) (hok:=by kernel_rfl) (Rr:=fun x y=>x=⟨alx a n c a2 n2 c2 lim w.heap.size,[]⟩/\∃ τ d,y=tp (w.alloc (.cells #[.int .i64 lim.name,.int .i64 lim.iP] 24)) τ d)
 .intro τ d;unfold nV al4;go_wp2
  exact⟨by unfold alx nV pv;rfl,τ,d,rfl⟩
 .rintro x y τ d ⟨h1,jH,d',rfl⟩;exact⟨h1,τ,d,rfl⟩
 rintro a1 w1 ⟨rfl,τ,d,rfl⟩;have hb1:fI w (tp (w.alloc (.cells #[.int .i64 lim.name,.int .i64 lim.iP] 24)) τ d):=fI.tp (.of ((Below.refl _ _).alloc (aY _) _)) τ d;have hr1:(tp (w.alloc (.cells #[.int .i64 lim.name,.int .i64 lim.iP] 24)) τ d).heap[w.heap.size]? = some (.cells #[.int .i64 lim.name,.int .i64 lim.iP] 24):=heap_alloc_new w _;generalize tp (w.alloc (.cells #[.int .i64 lim.name,.int .i64 lim.iP] 24)) τ d=w1 at hb1 hr1;unfold alx al4;refine BW.seq ?_;refine BW.seq ?_;refine BW.region ?_;simp only[rJ,oH,List.length_nil,Nat.reduceAdd,lU,List.range'];refine Vb (ε:=ε) rfl rfl (by decide) rfl (xP hb1 hml) (tH hb1 her) (xW hb1 hpw) (QA hb1 hbr) (o7 hcl hb1 fun b hb=>hb.elim) fun w2 hb2=>?_
 walk_nrm;refine BW.jU rfl rfl (by decide) (.bool false) (fun ω=>by constructor <;> kernel_rfl) ?_;walk_nrm;refine BW.rend ?_;refine BW.cond (t:=false) rfl ?_;simp only[jI,if_false];refine BW.skip ?_;have TH:fI w w2:=hb1.seq hb2;have l1:w.heap.size<w1.heap.size:=(fT.1 hr1).1;have:=K w2 TH ((hb2.block _ l1).trans hr1);simp only[akM,akI,Tryz.f6,Option.getD_some] at this;exact this
end
def LJk(a:Option Addr)(n c:Nat)(a2:Option Addr)(n2 c2 N p:Nat)(v8:Value)(f:Nat->Value):Array Value:=#[.slice a n c,.slice a2 n2 c2,f 2,f 3,f 4,pv N,f 6,pv p,v8,f 9,f 10,f 11,f 12,f 13,f 14,f 15,f 16,f 17,f 18,f 19,f 20,f 21,f 22,f 23,f 24,f 25,f 26,f 27,f 28,f 29,f 30,f 31,f 32,f 33,f 34,f 35,f 36,f 37,f 38,f 39,f 40,f 41,f 42,f 43,f 44,f 45,f 46,f 47,f 48,f 49,f 50,f 51,f 52,f 53,f 54,f 55,f 56,f 57,f 58,f 59,f 60,f 61,f 62,f 63,f 64,f 65,f 66,f 67,f 68,f 69,f 70,f 71,f 72,f 73,f 74,f 75,f 76,f 77,f 78,f 79]
structure KJk(a:Option Addr)(n c:Nat)(a2:Option Addr)(n2 c2 N p:Nat)(v8:Value)(A:Act):Prop where
 df:A.defers=[]
 size:A.tmps.size=80
 g0:A.tmps.getD 0 au=.slice a n c
 g1:A.tmps.getD 1 au=.slice a2 n2 c2
 g5:A.tmps.getD 5 au=pv N
 g7:A.tmps.getD 7 au=pv p
 g8:A.tmps.getD 8 au=v8
theorem KJk.lit{a:Option Addr}{n c:Nat}{a2:Option Addr}{n2 c2 N p:Nat}{v8:Value}{A:Act}(h:KJk a n c a2 n2 c2 N p v8 A):∃ f,A=⟨LJk a n c a2 n2 c2 N p v8 f,[]⟩:=by
 obtain⟨tm,df⟩:=A;obtain rfl:df=[]:=h.df;refine⟨fun j=>tm.getD j au,?_⟩;have e:=alA (show tm.size=80 from h.size);have g0:gt tm 0=.slice a n c:=h.g0;have g1:gt tm 1=.slice a2 n2 c2:=h.g1;have g5:gt tm 5=pv N:=h.g5;have g7:gt tm 7=pv p:=h.g7;have g8:gt tm 8=v8:=h.g8;rw[g0,g1,g5,g7,g8] at e;unfold LJk;exact congrArg (fun t=>(⟨t,[]⟩:Act)) e
theorem KJk.put{a:Option Addr}{n c:Nat}{a2:Option Addr}{n2 c2 N p:Nat}{v8:Value}{A:Act}(h:KJk a n c a2 n2 c2 N p v8 A)(t:Nat)(v:Value)(ht:t≠0/\t≠1/\t≠5/\t≠7/\t≠8):KJk a n c a2 n2 c2 N p v8 (A.put (some t) v) :=⟨h.df,by show(A.tmps.setIfInBounds t v).size=_;rw[qb5];exact h.size,(nk ht.1.symm).trans h.g0,(nk ht.2.1.symm).trans h.g1,(nk ht.2.2.1.symm).trans h.g5,(nk ht.2.2.2.1.symm).trans h.g7,(nk ht.2.2.2.2.symm).trans h.g8⟩
theorem KJk.lt{a:Option Addr}{n c:Nat}{a2:Option Addr}{n2 c2 N p:Nat}{v8:Value}{A:Act}(h:KJk a n c a2 n2 c2 N p v8 A)(t:Nat)(ht:t<80):t<A.tmps.size:=by rw[h.size];exact ht
noncomputable def alN:Array Oper:=match akM with|.seq (.region _ o _) _=>o|_=>#[]
noncomputable def akN:Code:=match akM with|.seq _ c=>c|_=>.skip
noncomputable def ak7:List Oper:=match akN with|.seq (.seq (.region _ o _) _) _=>o.toList|_=>[]
noncomputable def alz:Code:=match akN with|.seq (.seq _ (.cond _ c _)) _=>c|_=>.skip
noncomputable def alP:Array Oper:=match akN with|.seq _ (.seq (.region _ o _) _)=>o|_=>#[]
noncomputable def akP:Code:=match akN with|.seq _ (.seq _ c)=>c|_=>.skip
noncomputable def alh:Array Oper:=match akP with|.seq (.region _ o _) _=>o|_=>#[]
noncomputable def alf:Array Oper:=match akP with|.seq _ (.seq (.region _ o _) _)=>o|_=>#[]
noncomputable def alk:Array Oper:=match akP with|.seq _ (.seq _ (.seq (.region _ o _) _))=>o|_=>#[]
theorem ak4:akM=.seq (.region 3 alN true) akN:=by kernel_rfl
theorem ak9:akN=.seq (.seq (.region 4 ak7.toArray false) (.cond (.tmp 32) alz .skip)) (.seq (.region 6 alP true) akP):=by kernel_rfl
theorem ak8:akP=.seq (.region 7 alh false) (.seq (.region 8 alf false) (.seq (.region 9 alk false) ak2)):=by kernel_rfl
theorem alR(a:Option Addr)(n c:Nat)(a2:Option Addr)(n2 c2 N p:Nat)(v8:Value)(code:Int)(off:Nat)(held:Int)(d1 d2 d3:Bool)(w:World)(p1:w.cell? ⟨p,1,none⟩=some (.int .i64 code))(p2:w.cell? ⟨p,2,none⟩=some (.int .i64 (off:Nat)))(p3:w.cell? ⟨p,3,none⟩=some (.int .i64 held))(m1:(code != 71)=d1)(m2:((off:Int) != (n:Int))=d2)(m3:(held != 0)=d3){A0:Act}(h:KJk a n c a2 n2 c2 N p v8 A0):∃ A,(∀ τ d,wpList qp0 ak7.toArray (fun e x y=>e=.normal/\x=A/\y=tp w τ d) ak7 A0 (tp w τ d))/\KJk a n c a2 n2 c2 N p v8 A/\A.eval (.tmp 32)=.bool (d1||d2||d3):=by
 obtain⟨f,rfl⟩:=h.lit;clear h;unfold LJk pv
 cases d1 <;> cases d2 <;> cases d3 <;> (
  apply Exists.intro;apply And.intro
  .intro τ d;simp only[ak7,akN,akM,akI,Tryz.f6,Option.getD_some,qzl];have p1':(tp w τ d).cell? ⟨p,1,none⟩=some (.int .i64 code):=p1;have p2':(tp w τ d).cell? ⟨p,2,none⟩=some (.int .i64 (off:Nat)):=p2;have p3':(tp w τ d).cell? ⟨p,3,none⟩=some (.int .i64 held):=p3;go_wp2
   exact rfl
  .exact⟨⟨rfl,rfl,rfl,rfl,rfl,rfl,rfl⟩,rfl⟩)
theorem ale:∃ o,alz=.seq (.region 5 #[o] false) .ret/\o.guard=none/\o.op=.assign (.const (.bool true))/\o.dst=some 6:=⟨_,rfl,rfl,rfl,rfl⟩
theorem alH{d:List UInt8}{lim:kG}{o n:Nat}{e:En}{s s':bW}(he:Plain.gH d lim o s=.ent e s' n):e.data.length<=d.length:=by
 obtain⟨h,size,_,_,h1,_⟩:=Plain.TW he;unfold Plain.entry at h1;simp only at h1;split at h1
 .cases h1
 .split at h1
  .cases h1
  .simp only[qcq,MV] at h1;obtain⟨rfl,_⟩:=h1;simp only
   split
   .unfold eH;simp;omega
   .exact M8 _
theorem alj(l:List UInt8)(lim:kG)(n:Nat)(hl:l.length=n)(hn:n<=140737488351232){S:List EU}{w:World}{x:Option Addr}{m cp:Nat}(hS:S.map (·.1)=(Plain.jA l lim).ents)(hE:Qg w x m cp S):m<=274877906944/\∀ e∈S,e.2.2.1<=140737488355328:=by
 have h4:(Plain.jA l lim).ents.length=m:=by rw[<-hS,V7];exact hE.len
 have hk:512*(Plain.jA l lim).ents.length<=l.length/\∀ e∈(Plain.jA l lim).ents,e.data.length<=l.length:=by
  cases h:Plain.eT lim with
  | false=>rw[Plain.Yw h];exact⟨M8 _,fun e he=>by cases he⟩
  | true =>
   rw[Plain.RH h];refine⟨?_,Plain.Jp (C:=fun _ _ r=>∀ e∈r.ents,e.data.length<=l.length) (fun o s c off _ _ e he=>by cases he) (fun o s s' n _ _ _ _ k=>k) (fun o s e s' n _ _ _ h k x hx=>?_) 0 bW.zero (M8 _)⟩
   .have:=Plain.abd l lim 0 bW.zero (M8 _);omega
   .rcases rD.1 hx with rfl|hx
    .exact alH h
    .exact k x hx
 refine⟨by omega,fun e he=>?_⟩;have h5:=hk.2 e.1 (by rw[<-hS];exact List.mem_map_of_mem he);have h6:=(hE.dat e he).len;omega
def slJ:Slots:=⟨14,15,16,17,7⟩
def slK:Slots:=⟨33,34,35,36,8⟩
section
variable {ε:Nat×Nat}{Φ:Goroutine->World->Prop}
theorem KJk.stp{a:Option Addr}{n c:Nat}{a2:Option Addr}{n2 c2 N p:Nat}{v8:Value}{A:Act}(h:KJk a n c a2 n2 c2 N p v8 A)(t:Nat)(v:Value)(ht:t≠0/\t≠1/\t≠5/\t≠7/\t≠8)(h8:t<80){k:List Item}{y:World}(K:∀ A',KJk a n c a2 n2 c2 N p v8 A'->A'.eval (.tmp t)=v->(∀ j,j≠t->A'.eval (.tmp j)=A.eval (.tmp j))->BW qp0 (G ((base 6).at A' k) []) y Φ):BW qp0 (G ((base 6).at (A.put (some t) v) k) []) y Φ :=K _ (h.put t v ht) (rT (h.lt t h8)) fun j hj=>nk hj
theorem alu(a:Option Addr)(n c:Nat)(a2:Option Addr)(n2 c2 N p:Nat)(v8:Value)(l l2:List UInt8)(w y:World)(hbs:Bs w a n c l)(aj8:Bs w a2 n2 c2 l2)(hby:fI w y)(hsm:n+n2<=140737488351232){A:Act}(hA:KJk a n c a2 n2 c2 N p v8 A){c9:Code}(K:∀ A y',KJk a n c a2 n2 c2 N p v8 A->fI y y'->(∃ a' c',A.tmps.getD 9 au=.slice a' (n+n2) c'/\kF y' y.heap.size (.slice a' (n+n2) c') (n+n2) (l++l2))->BW qp0 (G ((base 6).at A [.code c9]) []) y' Φ):BW qp0 (G ((base 6).at A [.code (.seq (.region 7 alh false) (.seq (.region 8 alf false) c9))]) []) y Φ:=by
 have hcap:=hbs.cap;have hlen:=hbs.len;refine BW.seq ?_;refine BW.region ?_;have e:List.range' 0 alh.size=[0,1,2]:=by kernel_rfl
 rw[e];refine BW.move rfl rfl (by decide) (.inl rfl) ?_;refine hA.stp 37 _ (by decide) (by decide) fun A1 hK1 h37 _=>?_
 refine aiT rfl rfl rfl (by decide) (h37.trans hA.g0) hby hbs (by omega) fun y3 da m dc hoz aaf=>?_
 have hm:m=n:=by have:=Bh hoz.own;omega
 subst hm;refine hK1.stp 38 _ (by decide) (by decide) fun A2 hK2 h38 _=>?_
 refine BW.move rfl rfl (by decide) (.inr rfl) ?_;refine hK2.stp 9 _ (by decide) (by decide) fun A6 hK6 h9 _=>?_
 refine BW.rend ?_;refine BW.seq ?_;refine BW.region ?_;have e:List.range' 0 alf.size=[0,1,2,3]:=by kernel_rfl
 rw[e];refine BW.move rfl rfl (by decide) (.inl rfl) ?_;refine hK6.stp 39 _ (by decide) (by decide) fun A7 hK7 h39 _=>?_
 refine BW.move rfl rfl (by decide) (.inl rfl) ?_;refine hK7.stp 40 _ (by decide) (by decide) fun A8 hK8 U1 o8=>?_
 have h48:A8.eval (.tmp 39)=.slice da m dc:=(o8 39 (by decide)).trans (h39.trans (h9.trans h38));have h49:A8.eval (.tmp 40)=.slice a2 n2 c2:=U1.trans hK7.g1;refine Cc.BW.op1 (Rr:=fun x u=>∃ a' c',x=A8.put (some 41) (.slice a' (m+n2) c')/\kF u y.heap.size (.slice a' (m+n2) c') (m+n2) (l++l2)/\fI y u) LG rfl (by decide) rfl (fun τ d=>?_) (fun x u τ d hq=>?_) fun x y4 hq=>?_
 .have ho2:kF (tp y3 τ d) y.heap.size (.slice da m dc) m l:=kF.kept (w:=y3) hoz fun _ _=>rfl
  refine sO rfl _ _ rfl y.heap.size h48 ho2 h49 (((hby.seq aaf).tp τ d).keeps.bs aj8) (by omega) aaf.size fun a' c' w' ho3 hg=>?_
  refine⟨rfl,a',c',rfl,ho3,?_⟩;have:=below_app (B:=y.heap.size) (w0:=tp y τ d) (w:=tp y3 τ d) ⟨aaf.os,rfl,aaf.output,aaf.size,aaf.block⟩ ho2.own hg (aY _) aaf.size;exact .pR (τ:=τ) (d:=d) this
 .obtain⟨a',c',h1,h2,h3⟩:=hq;exact⟨a',c',h1,h2.kept fun _ _=>rfl,h3.tp τ d⟩
 obtain⟨a',c',rfl,Rs,hb4⟩:=hq;refine hK8.stp 41 _ (by decide) (by decide) fun A9 hK9 h41 _=>?_
 refine BW.move rfl rfl (by decide) (.inr rfl) ?_;refine hK9.stp 9 _ (by decide) (by decide) fun A10 aj7 h9 _=>?_
 refine BW.rend ?_;exact K _ y4 aj7 hb4 ⟨a',c',h9.trans h41,Rs⟩
theorem alo(a:Option Addr)(n c:Nat)(a2:Option Addr)(n2 c2 N p:Nat)(v8:Value)(l3:List UInt8)(lim:kG)(w y:World)(ev:Value)(hml:uF w)(her:eO w ev)(hpw:lV w)(hbr:EZ w){D:Nat->Prop}(hcl:bU qp0 (dW ε) (fun _=>False) D #[] w)(hby:fI w y){A:Act}(hA:KJk a n c a2 n2 c2 N p v8 A)(hry:y.heap[N]? = some (.cells #[.int .i64 lim.name,.int .i64 lim.iP] 24))(a3:Option Addr)(n3 c3 B:Nat)(h9:A.tmps.getD 9 au=.slice a3 n3 c3)(ho:kF y B (.slice a3 n3 c3) n3 l3)(hB:w.heap.size<=B)(hn3:n3<=140737488351232)(R:Plain.Pz)(hR:Plain.jA l3 lim=R){k:List Item}(K:∀ A y' (r:Nat) (z:Option Addr) (u ep:Nat) (U:List EU),KJk a n c a2 n2 c2 N p v8 A->fI y y'->A.tmps.getD 10 au=pv r->y'.heap[r]? = some (.cells #[.slice z u ep,.int .i64 R.code,.int .i64 R.off,.int .i64 R.held] 30)->U.map (·.1)=R.ents->Qg y' z u ep U->BW qp0 (G ((base 6).at A k) []) y' Φ):BW qp0 (G ((base 6).at A (.code (.region 9 alk false)::k)) []) y Φ:=by
 refine BW.region ?_;have e:List.range' 0 alk.size=[0,1,2,3,4]:=by kernel_rfl
 rw[e];refine BW.move rfl rfl (by decide) (.inl rfl) ?_;refine hA.stp 42 _ (by decide) (by decide) fun A1 hK1 h42 _=>?_
 refine aiv rfl rfl rfl (by decide) hK1.g5 hry fun y2 hb2=>?_
 have hoz:=kF.bJ ho hb2;refine hK1.stp 43 _ (by decide) (by decide) fun A2 hK2 h43 o2=>?_
 have hbz:fI w y2:=hby.seq hb2;obtain⟨D',hst,_⟩:=CQ hcl hbz hoz.cl (fun g hg=>tT hB (hoz.own.lt g hg).1);refine JX (ε:=ε) (lim:=lim) (data:=l3) rfl rfl (by decide) rfl ((o2 42 (by decide)).trans (h42.trans h9)) h43 (OY hoz.own) hn3 (xP hbz hml) (tH hbz her) (xW hbz hpw) hst fun v y3 hp=>?_
 rw[hR] at hp;refine hK2.stp 44 _ (by decide) (by decide) fun A3 hK3 h44 _=>?_
 refine aiP rfl rfl rfl (by decide) fun y4 hb4 hr4=>?_
 refine hK3.stp 10 _ (by decide) (by decide) fun A4 hK4 h10 o4=>?_
 refine aik rfl rfl rfl rfl (by decide) (hp.bJ.seq hb4) h10 hr4 hp.bJ.size ((o4 44 (by decide)).trans h44) (Vf.keep hp hb4) fun y5 hb5 hex=>?_
 obtain⟨zz,nn,cc,Q,hrow,_,hQ,hown,hdt⟩:=hex;refine BW.rend ?_;exact K A4 y5 y3.heap.size zz nn cc Q hK4 (hb2.seq hb5) h10 hrow hQ (adN hown hdt)
theorem alF(a:Option Addr)(n c:Nat)(l:List UInt8)(a2:Option Addr)(n2 c2:Nat)(l2:List UInt8)(lim:kG)(w:World)(ev:Value)(hb:Bs w a n c l)(hc0:c<=1048576)(hb2:Bs w a2 n2 c2 l2)(hc2:c2<=1048576)(hml:uF w)(her:eO w ev)(hpw:lV w)(hbr:EZ w){D:Nat->Prop}(hcl:bU qp0 (dW ε) (fun _=>False) D #[] w):BW qp0 (G (Frame.enter qp0 6 #[.slice a n c,.slice a2 n2 c2,nV lim] .normal) []) w (Cc.Ends qp0 fun v w'=>v=.bool true/\fI w w'):=by
 have hcap:=hb.cap;have hcap2:=hb2.cap;have hsm:n+n2<=140737488351232:=by omega
 have hn:n<=140737488351232:=by omega
 have hn2:n2<=140737488351232:=by omega
 have hlen:=hb.len;have aff:=hb2.len;refine als a n c a2 n2 c2 lim w ev hml her hpw hbr hcl fun w2 TH hl2=>?_
 rw[ak4];refine BW.seq ?_;have hTs:(alI a n c a2 n2 c2 lim w.heap.size).size=80:=rfl;refine Tw (ε:=ε) (s:=slJ) (xs:=0) (lp:=5) (lb:=w.heap.size) ⟨⟨_,rfl,rfl,rfl,rfl⟩,⟨_,_,rfl,rfl,rfl,rfl⟩,⟨_,rfl,rfl,rfl,rfl⟩,⟨_,_,rfl,rfl,rfl,rfl⟩,⟨_,rfl,rfl,rfl,rfl⟩,⟨_,rfl,rfl,rfl,rfl⟩,rfl,by kernel_rfl⟩ (by rw[hTs];decide) (by decide) (by decide) (by decide) (by decide) rfl hb hn rfl hl2 hml her hpw hcl TH fun A y hF=>?_
 obtain⟨tm,df⟩:=A;obtain rfl:df=[]:=hF.df;obtain⟨p,x,m,cp,S,hp1,aiO,hp3,hS,aiW,ai3⟩:=hF.ex;have hK:KJk a n c a2 n2 c2 w.heap.size p (tm.getD 8 au) ⟨tm,[]⟩:=⟨rfl,hF.size,hF.old 0 (by decide),hF.old 1 (by decide),hF.old 5 (by decide),hp1,rfl⟩;have hby:fI w y:=TH.seq hF.bJ;have hry:y.heap[w.heap.size]? = some (.cells #[.int .i64 lim.name,.int .i64 lim.iP] 24):=(hF.bJ.block _ (fT.1 hl2).1).trans hl2;have p1:y.cell? ⟨p,1,none⟩=some (.int .i64 (Plain.jA l lim).code):=cell_of_row _ _ _ _ _ _ aiO;have p2:y.cell? ⟨p,2,none⟩=some (.int .i64 ((Plain.jA l lim).off:Nat)):=cell_of_row _ _ _ _ _ _ aiO;have p3:y.cell? ⟨p,3,none⟩=some (.int .i64 (Plain.jA l lim).held):=cell_of_row _ _ _ _ _ _ aiO;obtain⟨⟨T,D0⟩,hw4,hK4,h32⟩:=alR a n c a2 n2 c2 w.heap.size p _ _ _ _ _ _ _ y p1 p2 p3 rfl rfl rfl hK;obtain rfl:D0=[]:=hK4.df;have alK:T.size=80:=hK4.size;rw[ak9];refine BW.seq ?_;refine BW.seq ?_;refine BW.aie _ LG (by decide) (by kernel_rfl) hw4 ?_;refine BW.cond h32 ?_
 cases hd:(((Plain.jA l lim).code != 71)||(((Plain.jA l lim).off:Int) != (n:Int))||((Plain.jA l lim).held != 0)) with
 | true =>
  simp only[if_true];obtain⟨o,e1,e2,e3,e4⟩:=ale;exact ait func6 (by kernel_rfl) (by simp only[Tryz.f6]) e1 e2 e3 e4 hK4.df (by rw[hK4.size];decide) hby
 | false =>
  simp only[Bool.or_eq_false_iff,bne_eq_false_iff_eq] at hd;obtain⟨⟨c1,c2'⟩,c3⟩:=hd;have hj:=Plain.ak1 l l2 lim c1 (by omega) c3;simp only[jI,if_false];refine BW.skip ?_;refine BW.seq ?_;refine Tw (ε:=ε) (s:=slK) (xs:=1) (lp:=5) (lb:=w.heap.size) ⟨⟨_,rfl,rfl,rfl,rfl⟩,⟨_,_,rfl,rfl,rfl,rfl⟩,⟨_,rfl,rfl,rfl,rfl⟩,⟨_,_,rfl,rfl,rfl,rfl⟩,⟨_,rfl,rfl,rfl,rfl⟩,⟨_,rfl,rfl,rfl,rfl⟩,rfl,by kernel_rfl⟩ (by rw[alK];decide) (by decide) (by decide) (by decide) (by decide) hK4.g1 hb2 hn2 hK4.g5 hry hml her hpw hcl hby fun A2 z hG=>?_
  obtain⟨tm2,df2⟩:=A2;obtain rfl:df2=[]:=hG.df;obtain⟨q,yy,o,dp,T2,hq1,ai0,hq3,hT,aiU,ai4⟩:=hG.ex;have hK5:KJk a n c a2 n2 c2 w.heap.size p (pv q) ⟨tm2,[]⟩:=⟨rfl,hG.size.trans alK,(hG.old 0 (by decide)).trans hK4.g0,(hG.old 1 (by decide)).trans hK4.g1,(hG.old 5 (by decide)).trans hK4.g5,(hG.old 7 (by decide)).trans hK4.g7,hq1⟩;have hbz:fI w z:=hby.seq hG.bJ;have hrz:z.heap[w.heap.size]? = some (.cells #[.int .i64 lim.name,.int .i64 lim.iP] 24):=(hG.bJ.block _ (fT.1 hry).1).trans hry;rw[ak8];refine alu a n c a2 n2 c2 w.heap.size p (pv q) l l2 w z hb hb2 hbz hsm hK5 fun A6 z2 hK6 hb6 hex=>?_
  obtain⟨a3,c3',h9,ho⟩:=hex;refine BW.seq ?_;refine alo a n c a2 n2 c2 w.heap.size p (pv q) (l++l2) lim w z2 ev hml her hpw hbr hcl (hbz.seq hb6) hK6 ((hb6.block _ (fT.1 hrz).1).trans hrz) a3 _ c3' z.heap.size h9 ho hbz.size (by omega) _ hj fun A7 z3 r zz u ep U hK7 mq h10 alL hU hUE=>?_
  obtain⟨tm3,df3⟩:=A7;obtain rfl:df3=[]:=hK7.df;have aed:tm3.size=80:=hK7.size;have e:tm3=alC a n c p q r (fun j=>tm3.getD j au):=by
   have:=alA aed;rw[show gt tm3 0=.slice a n c from hK7.g0,show gt tm3 7=pv p from hK7.g7,show gt tm3 8=pv q from hK7.g8,show gt tm3 10=pv r from h10] at this;exact this
  rw[e];generalize (fun j=>tm3.getD j au)=f;have alT:fI w z3:=(hbz.seq hb6).seq mq;have alG:fI z z3:=hb6.seq mq;have hy3:fI y z3:=hG.bJ.seq alG;have alV:z3.heap[p]? = _:=(hy3.block p (fT.1 aiO).1).trans aiO;have alU:z3.heap[q]? = _:=(alG.block q (fT.1 ai0).1).trans ai0;have hES:=adN aiW ai3;have hET:=adN aiU ai4;obtain⟨n1,n3⟩:=alj l lim n hlen hn hS hES;obtain⟨n4,n5⟩:=alj l2 lim n2 aff hn2 hT hET;have hqo:=Plain.alb l2 lim;have HR:=fun τ d=>aln a n c p q r (Plain.jA l lim) (Plain.jA l2 lim) _ (by rw[<-hlen]) hn (by omega) x m cp S yy o dp T2 zz u ep U f (tp z3 τ d) (by omega) n3 alV alU alL hS hT hU ((hES.keep hy3.keeps).keep ((fI.refl z3).tp τ d).keeps) ((hET.keep alG.keeps).keep ((fI.refl z3).tp τ d).keeps) (hUE.keep ((fI.refl z3).tp τ d).keeps)
  exact BW.last okA func6 (by kernel_rfl) (by kernel_rfl) (Post:=fun v w'=>v=.bool true/\fI w w') (fun τ d=>Code.wp_mono (fun e x y hq=>u7 (fun v w' hv=>⟨hv.1,alT.seq (.pR hv.2)⟩) hq) (HR τ d)) (fun v w' τ d hq=>⟨hq.1,hq.2.tp τ d⟩)
