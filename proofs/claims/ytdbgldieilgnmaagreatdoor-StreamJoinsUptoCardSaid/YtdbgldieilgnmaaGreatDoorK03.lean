/- K03 -/
import Derived.Test.YtdbgldieilgnmaaGreatDoorK02
import Derived.Conc.FxBegin
import Derived.Conc.TokenWalk
import Derived.Conc.LoneSelect
import Derived.Conc.Company
import Derived.Conc.AppendEvents3
set_option linter.all false
set_option maxHeartbeats 8000000
set_option maxRecDepth 100000
namespace Go.Proofs.YtdbgldieilgnmaaGreatDoor
open ChangeShapes WideShapes ChangeAt RowKit
open Go renaming undef → au
section
open Go.Conc
namespace Cc
section
variable {P:Program}{L:List FuncId}
theorem Nw(v:Value):ok P T (asAddr v):=by
 unfold asAddr;split
 .exact ay _
 .exact bF _
 .exact aA _
theorem K7{α β:Type}{f:α->Sem β}(h:∀ a,ok P T (f a)):∀ l:List α,ok P T (l.mapM f)
 | []=>by rw[qbs];exact ay _
 | a::l=>by
  rw[qbj];exact aC (h a) fun b=>aC (K7 h l) fun bs=>ay _
theorem kS(fn:Func)(tmps:Array Value):ok P T (results fn tmps):=by
 unfold results;rw[qaP];refine aC (NG (K7 (fun r=>?_) _)) fun vs=>ay _
 cases r with
 | tmp t=>exact ay _
 | cell a t=>exact aC (Nw _) fun a=>BU _ _
theorem QN{fn:FuncId}{tmps:Array Value}{todo:List Item}{w:World}(hfn:(P.funcs[fn]?).isSome=true):∃ n,(∃ v w' es,w'.drawn=w.drawn+n/\w'.tape=w.tape/\w.heap.size<=w'.heap.size/\(∀ e∈es,Low w'.heap.size e)/\∀ c B τ d,(∀ i,i<n->τ (d+i)=w.tape (w.drawn+i))->stepG P true (G (R fn tmps todo) (c::B)) (tp w τ d)=.go (G (c.finish v) B) (tp w' τ (d+n)) es) \/
   (∀ c B τ d,(∀ i,i<n->τ (d+i)=w.tape (w.drawn+i))->∃ o w' es,stepG P true (G (R fn tmps todo) (c::B)) (tp w τ d)=.ended o w' es):=by
 obtain⟨f,hf⟩:=qbM.1 hfn;obtain⟨n,r,es',hr⟩:=dZ (kS (P:=P) f tmps) w #[];have hlow:=qR hr.low;have hun:∀ c B w,stepG P true (G (R fn tmps todo) (c::B)) w=unwind P true (R fn tmps todo) (c::B) none w:=fun c B w=>by simp[stepG,R,G]
 refine⟨n,?_⟩
 cases r with
 | ok v w' =>
  refine .inl ⟨v,w',seen P fn es',hr.drawn,hr.tape,hr.size,fM hlow,fun c B τ d ht=>?_⟩;have e:(results f tmps).runT P (tp w τ d) #[]=(.ok v (tp w' τ (d+n)),es'):=hr.nat τ d ht;rw[hun];unfold unwind;simp only[R,hf,e];simp[GStep.after,doReturn,G]
 | halt h w' =>
  refine .inr fun c B τ d ht=>?_
  have e:(results f tmps).runT P (tp w τ d) #[]=(.halt h (tp w' τ (d+n)),es'):=hr.nat τ d ht;rw[hun];unfold unwind;simp only[R,hf,e]
  cases h <;> exact⟨_,_,_,rfl⟩
theorem WC{fn:FuncId}{tmps:Array Value}{todo:List Item}{c:Frame}{cs:List Frame}{w:World}(hfn:(P.funcs[fn]?).isSome=true)(hcs:∀ x∈c::cs,MQ P L x):DX P L (R fn tmps todo) (c::cs) w:=by
 obtain⟨n,h⟩:=QN (P:=P) (tmps:=tmps) (todo:=todo) (w:=w) hfn;rcases h with⟨v,w',es,h1,h2,h3,h4,h5⟩|h
 .obtain⟨g,t,k,rfl,hg,hk⟩:=hcs c (by simp);obtain⟨t',k',e1,e2⟩:=xY (L:=L) g t hk v;exact .go n _ cs w' es ⟨fun B τ d ht=>h5 _ _ τ d ht,h1,h2,h3,h4⟩ (.inl ⟨g,t',k',e1,hg,e2⟩) fun x hx=>hcs x (by simp[hx])
 .exact .ended n fun B τ d ht=>h _ _ τ d ht
theorem LK{fr c:Frame}{B:List Frame}{w:World}(h:Pan P fr):∃ ch,stepG P true (G fr (c::B)) w=.go (G (c.raise ch) B) w #[]:=by
 obtain⟨⟨ch,h1⟩,h2,h3⟩:=h;obtain⟨f,hf⟩:=qbM.1 h3;refine⟨ch,?_⟩;obtain⟨fn,tmps,todo,defers,mode,kind,ro⟩:=fr;simp only at h1 h2 h3 hf;subst h1 h2;have hc:Frame.catches P {fn:=fn,tmps:=tmps,todo:=todo,defers:=[],mode:=.panicking ch,kind:=kind,roundOf:=ro}=false:=by
  unfold Frame.catches;simp only[hf]
 simp[stepG,G,unwind,hc]
theorem RD{c:Frame}(h:MQ P L c)(ch:List PanicEntry):Pan P (c.raise ch):=by
 obtain⟨fn,tmps,todo,rfl,h1,_⟩:=h;exact⟨⟨ch,rfl⟩,rfl,h1⟩
def c0:Frame:={fn:=0,tmps:=#[],todo:=[.code (.refuse "")],defers:=[{target:=.nil,args:=#[]}],mode:=.run,kind:=.normal}
theorem jN{fr fr':Frame}{cs cs':List Frame}{w w':World}{es:Array Event}(h:stepG P true (G fr cs) w=.go (G fr' cs') w' es):step P (lone fr cs w)=.next (lone fr' cs' w') :=step_lone_go (by rw[show({frame:=fr,callers:=cs,status:=.running,dying:=none}:Goroutine)=G fr cs from rfl,h];rfl)
theorem eB{fr:Frame}{cs:List Frame}{w w':World}{o:Outcome}{es:Array Event}(h:stepG P true (G fr cs) w=.ended o w' es):step P (lone fr cs w)=.ended o w' :=step_lone_ended (by rw[show({frame:=fr,callers:=cs,status:=.running,dying:=none}:Goroutine)=G fr cs from rfl,h];rfl)
def GR(P:Program)(m:Machine):Prop:=∀ N fr w',runN P N m=.next (lone fr [c0] w')->fr.mode=.returning->False
theorem lS{fr fr':Frame}{cs cs':List Frame}{w w':World}(h:lone fr cs w=lone fr' cs' w'):fr=fr'/\cs=cs'/\w=w':=by
 simp only[lone,Machine.mk.injEq,Array.mk.injEq,qbo,Goroutine.mk.injEq,and_true] at h;exact⟨h.2.1,h.2.2,h.1⟩
theorem CG{fr:Frame}{cs:List Frame}{w:World}{m:Machine}(hne:cs≠[c0]\/fr.mode≠.returning)(h:step P (lone fr cs w)=.next m)(hm:GR P m):GR P (lone fr cs w):=by
 intro N fr' w' hN hr
 cases N with
 | zero =>
  simp only[runN,Stepped.next.injEq] at hN;obtain⟨rfl,rfl,_⟩:=lS hN;rcases hne with h|h
  .exact h rfl
  .exact h hr
 | succ N =>
  simp only[runN,h] at hN;exact hm N fr' w' hN hr
theorem Gx{fr:Frame}{cs:List Frame}{w w':World}{o:Outcome}(hne:cs≠[c0]\/fr.mode≠.returning)(h:step P (lone fr cs w)=.ended o w'):GR P (lone fr cs w):=by
 intro N fr' w' hN hr
 cases N with
 | zero =>
  simp only[runN,Stepped.next.injEq] at hN;obtain⟨rfl,rfl,_⟩:=lS hN;rcases hne with h|h
  .exact h rfl
  .exact h hr
 | succ N=>simp only[runN,h] at hN;cases hN
theorem U9(v:Value)(w:World):GR P (lone (c0.finish v) [] w):=by
 refine Gx (.inl (by simp)) (eB (es:=#[]) (o:=.unsupported (.elab "") ((c0.finish v).pos P)) (w':=w) ?_);simp[stepG,stepG.exec,G,c0,Frame.finish]
theorem R7(ch:List PanicEntry)(w:World):GR P (lone (c0.raise ch) [] w):=by
 refine Gx (.inl (by simp)) (eB (es:=#[]) (o:=.unsupported (.noEntry "machine/Return: a deferred call of a nil function value, made while the frame is unwinding") (({c0 with mode:=.panicking ch,defers:=[]}:Frame).pos P)) (w':=w) ?_);simp[stepG,G,c0,Frame.raise,unwind,callDeferred]
theorem Gl{w:World}:∀ {cs:List Frame}{fr:Frame},Pan P fr->(∀ c∈cs,MQ P L c)->GR P (lone fr (cs++[c0]) w)
 | [],fr,h,_=>by
  obtain⟨ch,hs⟩:=LK (c:=c0) (B:=[]) (w:=w) h;refine CG (.inr ?_) (jN hs) (R7 ch w);obtain⟨⟨ch,h1⟩,_⟩:=h;rw[h1];simp
 | c::cs,fr,h,hcs=>by
  obtain⟨ch,hs⟩:=LK (c:=c) (B:=cs++[c0]) (w:=w) h;refine CG (.inl (by simp)) (jN hs) (Gl (RD (hcs c (by simp)) ch) fun x hx=>hcs x (by simp[hx]))
end
end Cc
end
section
open Go.Conc
namespace Sr
def mQ(D:Nat->Prop)(a b:Nat):Prop:=a=b/\D a
section
variable {P:Program}{R:Nat->Nat->Prop}{L:FuncId->Bool}{K:Op->Bool}{Z:Bool}{B dI:List Frame}
theorem VR.eq(hR:∀ a b,R a b->a=b){v w:Value}(h:VR R L v w):v=w:=by
 have arr:∀ {x y:Array Value},x.size=y.size->(∀ (i:Nat)(v w:Value),x[i]? = some v->y[i]? = some w->v=w)->x=y:=by
  intro x y hs h;refine TS hs fun i h1 h2=>?_
  exact h i _ _ (mJ h1) (mJ h2)
 have addr:∀ {a b:Addr},AR R a b->a=b:=by
  intro a b h;obtain⟨x,y,z⟩:=a;obtain⟨x',y',z'⟩:=b;obtain⟨h1,h2,h3⟩:=h;have:=hR _ _ h1;simp only at this h2 h3;subst this h2 h3;rfl
 induction h with
 | bool b=>rfl
 | int k n=>rfl
 | string s=>rfl
 | gV=>rfl
 | ptr a b h=>rw[addr h]
 | iq n c=>rfl
 | slice a b n c h=>rw[addr h]
 | fV=>rfl
 | map r s h=>rw[hR _ _ h]
 | chan r=>rfl
 | func f hf x c y d hx hxv hc hcv ih1 ih2=>rw[arr hx ih1,arr hc ih2]
 | nilFunc=>rfl
 | iface t v w h ih=>rw[ih]
 | tJ t a ht ha=>rfl
 | nilIface=>rfl
 | agg x y hx hv ih=>rw[arr hx ih]
 | tuple x y hx hv ih=>rw[arr hx ih]
theorem AV.eq(hR:∀ a b,R a b->a=b){x y:Array Value}(h:AV R L x y):x=y :=TS h.1 fun i h1 h2=>(h.2 i _ _ (mJ h1) (mJ h2)).eq hR
theorem AR.eq(hR:∀ a b,R a b->a=b){a b:Addr}(h:AR R a b):a=b:=by
 obtain⟨x,y,z⟩:=a;obtain⟨x',y',z'⟩:=b;obtain⟨h1,h2,h3⟩:=h;have:=hR _ _ h1;simp only at this h2 h3;subst this h2 h3;rfl
theorem ER.eq(hR:∀ a b,R a b->a=b){x y:MapEntry}(h:ER R L x y):x=y:=by
 obtain⟨a,b,c⟩:=x;obtain⟨a',b',c'⟩:=y;obtain⟨h1,h2,h3⟩:=h;simp only at h1 h2 h3;rw[h1.eq hR,h2.eq hR,h3]
theorem OR.eq(hR:∀ a b,R a b->a=b){x y:Obj}(h:OR R L x y):x=y:=by
 cases h with
 | cells x y e f h=>rw[h.eq hR]
 | map x y c h =>
  have:x=y:=TS h.1 fun i h1 h2=>(h.2 i _ _ (mJ h1) (mJ h2)).eq hR
  rw[this]
 | sit s p=>rfl
 | fV a s t=>rfl
 | number a b l h=>rw[h.eq hR]
 | M7 m m' h a s t=>rw[hR _ _ h]
theorem OO.eq(hR:∀ a b,R a b->a=b){x y:Option Obj}(h:OO R L x y):x=y:=by
 cases h with
 | none=>rfl
 | some h=>rw[h.eq hR]
theorem DR.eq(hR:∀ a b,R a b->a=b){x y:Deferred}(h:DR R L x y):x=y:=by
 obtain⟨t,a⟩:=x;obtain⟨t',a'⟩:=y;obtain⟨h1,h2⟩:=h;simp only at h1 h2
 cases h1 with
 | fn f hf x y h=>rw[h.eq hR,h2.eq hR]
 | nil=>rw[h2.eq hR]
 | builtin b ts t cs=>rw[h2.eq hR]
theorem DL.eq(hR:∀ a b,R a b->a=b){x y:List Deferred}(h:DL R L x y):x=y:=by
 induction h with
 | nil=>rfl
 | cons h k ih=>rw[h.eq hR,ih]
theorem PR.eq(hR:∀ a b,R a b->a=b){x y:List PanicEntry}(h:PR R L x y):x=y:=by
 induction h with
 | nil=>rfl
 | @cons x y a b hv hr hg k ih =>
  obtain⟨v,r,g⟩:=x;obtain⟨v',r',g'⟩:=y;simp only at hv hr hg;rw[hv.eq hR,hr,hg,ih]
section
variable {R':Nat->Nat->Prop}
theorem VR.fn(hR:∀ a b b',R a b->R a b'->b=b')(hO:∀ a b,R a b->L (2*a+1000000001)=false){v x y:Value}(h:VR R L v x)(k:VR R L v y):x=y:=by
 have arr:∀ {a x y:Array Value},a.size=x.size->a.size=y.size->(∀ (i:Nat)(u v:Value),a[i]? = some u->x[i]? = some v->∀ z,VR R L u z->v=z)->(∀ (i:Nat)(u v:Value),a[i]? = some u->y[i]? = some v->VR R L u v)->x=y:=by
  intro a x y h1 h2 h3 h4;refine TS (h1.symm.trans h2) fun i hx hy=>?_
  have ha:i<a.size:=by omega
  exact h3 i a[i] x[i] (mJ ha) (mJ hx) _ (h4 i _ _ (mJ ha) (mJ hy))
 have addr:∀ {a b c:Addr},AR R a b->AR R a c->b=c:=by
  intro a b c h k;obtain⟨x,y,z⟩:=b;obtain⟨x',y',z'⟩:=c;obtain⟨h1,h2,h3⟩:=h;obtain⟨k1,k2,k3⟩:=k;have:=hR _ _ _ h1 k1;simp only at this h2 h3 k2 k3;subst this;rw[<-h2,<-h3,<-k2,<-k3]
 induction h generalizing y with
 | bool b=>cases k;rfl
 | int kd n=>cases k;rfl
 | string s=>cases k;rfl
 | gV=>cases k;rfl
 | ptr a b h=>cases k with|ptr _ c k=>rw[addr h k]
 | iq n c=>cases k;rfl
 | slice a b n c h=>cases k with|slice _ d _ _ k=>rw[addr h k]
 | fV=>cases k;rfl
 | map r s h=>cases k with|map _ t k=>rw[hR _ _ _ h k]
 | chan r=>cases k;rfl
 | func f hf x c y d hx hxv hc hcv ih1 ih2 =>
  cases k with
  | func _ _ _ _ y' d' hx' agH hc' agE=>rw[arr hx hx' (fun i u v h1 h2 z h3=>ih1 i u v h1 h2 h3) agH,arr hc hc' (fun i u v h1 h2 z h3=>ih2 i u v h1 h2 h3) agE]
 | nilFunc=>cases k;rfl
 | iface t v w h ih =>
  cases k with
  | iface _ _ w' k=>rw[ih k]
  | tJ _ a ht ha =>
   cases h with
   | ptr _ b h=>have:=hO _ _ h.1;rw[ha] at this;cases this
 | tJ t a ht ha =>
  cases k with
  | iface _ _ w' k =>
   cases k with
   | ptr _ b h=>have:=hO _ _ h.1;rw[ha] at this;cases this
  | tJ _ _ _ _=>rfl
 | nilIface=>cases k;rfl
 | agg x y hx hv ih=>cases k with|agg _ y' hx' hv'=>rw[arr hx hx' (fun i u v h1 h2 z h3=>ih i u v h1 h2 h3) hv']
 | tuple x y hx hv ih=>cases k with|tuple _ y' hx' hv'=>rw[arr hx hx' (fun i u v h1 h2 z h3=>ih i u v h1 h2 h3) hv']
theorem AV.fn(hR:∀ a b b',R a b->R a b'->b=b')(hO:∀ a b,R a b->L (2*a+1000000001)=false){a x y:Array Value}(h:AV R L a x)(k:AV R L a y):x=y:=by
 refine TS (h.1.symm.trans k.1) fun i hx hy=>?_
 have ha:i<a.size:=by have:=h.1;omega
 exact(h.2 i _ _ (mJ ha) (mJ hx)).fn hR hO (k.2 i _ _ (mJ ha) (mJ hy))
theorem OR.fn(hR:∀ a b b',R a b->R a b'->b=b')(hO:∀ a b,R a b->L (2*a+1000000001)=false){a x y:Obj}(h:OR R L a x)(k:OR R L a y):x=y:=by
 cases h with
 | cells x y e f h=>cases k with|cells _ y' _ _ k=>rw[h.fn hR hO k]
 | map x y c h =>
  cases k with
  | map _ y' _ k =>
   have:y=y':=by
    refine TS (h.1.symm.trans k.1) fun i h1 h2=>?_
    have ha:i<x.size:=by have:=h.1;omega
    have e1:=h.2 i _ _ (mJ ha) (mJ h1);have e2:=k.2 i _ _ (mJ ha) (mJ h2);generalize y[i]=p at e1;generalize y'[i]=q at e2;obtain⟨a1,a2,a3⟩:=p;obtain⟨b1,b2,b3⟩:=q;have f1:=e1.key.fn hR hO e2.key;have f2:=e1.val.fn hR hO e2.val;have f3:=e1.born.symm.trans e2.born;simp only at f1 f2 f3;rw[f1,f2,f3]
   rw[this]
 | sit s p=>cases k;rfl
 | fV a s t=>cases k;rfl
 | number a b l h =>
  cases k with
  | number _ c _ k =>
   obtain⟨x,y,z⟩:=b;obtain⟨x',y',z'⟩:=c;obtain⟨h1,h2,h3⟩:=h;obtain⟨k1,k2,k3⟩:=k;have:=hR _ _ _ h1 k1;simp only at this h2 h3 k2 k3;subst this;rw[<-h2,<-h3,<-k2,<-k3]
 | M7 m m' h a s t=>cases k with|M7 _ m'' k _ _ _=>rw[hR _ _ _ h k]
theorem OO.fn(hR:∀ a b b',R a b->R a b'->b=b')(hO:∀ a b,R a b->L (2*a+1000000001)=false){a x y:Option Obj}(h:OO R L a x)(k:OO R L a y):x=y:=by
 cases h with
 | none=>cases k;rfl
 | some h=>cases k with|some k=>rw[h.fn hR hO k]
end
def ZH:Code->Code->Code
 | .seq a b,r=>.seq a (ZH b r)
 | _,r=>r
theorem FT:∀ (l:List Code)(r:Code),ZH (dR l (.refuse "")) r=dR l r
 | [],r=>rfl
 | c::l,r=>by rw[dR,ZH,FT l r];rfl
def o8:Option ((Code ⊕ Nat)×List Item)->List Item->List Item
 | none,t=>t
 | some (.inl r,k),t=>t.dropLast++(match t.getLast? with|some (.code c)=>.code (ZH c r)::k|_=>[])
 | some (.inr n,k),t=>t.dropLast++.inBlock n::k
def TdI:Option ((Code ⊕ Nat)×List Item)->List Item->Prop
 | none,_=>True
 | some rk,x=>∃ X l,okE rk.1 l/\x=X++[.code (dR l (.refuse ""))]
theorem lQ(rk:(Code ⊕ Nat)×List Item)(X:List Item)(l:List Code):o8 (some rk) (X++[.code (dR l (.refuse ""))])=X++fQ rk.1 l::rk.2:=by
 obtain⟨r|n,k⟩:=rk <;> simp[o8,FT,fQ]
theorem Ak.cut{o:Option ((Code ⊕ Nat)×List Item)}{x y:List Item}(h:Ak o x y):y=o8 o x:=by
 cases o with
 | none=>exact h
 | some rk=>obtain⟨X,l,_,rfl,rfl⟩:=h;exact(lQ ..).symm
theorem Ak.td{o:Option ((Code ⊕ Nat)×List Item)}{x y:List Item}(h:Ak o x y):TdI o x:=by
 cases o with
 | none=>trivial
 | some rk=>obtain⟨X,l,h0,rfl,rfl⟩:=h;exact⟨X,l,h0,rfl⟩
theorem TdI.cut{o:Option ((Code ⊕ Nat)×List Item)}{x:List Item}(h:TdI o x):Ak o x (o8 o x):=by
 cases o with
 | none=>exact rfl
 | some rk=>obtain⟨X,l,h0,rfl⟩:=h;exact⟨X,l,h0,rfl,lQ ..⟩
def iR(T:xH)(x:Frame):Frame:={x with defers:=x.defers++T.1.1,kind:=T.2.1 x.kind,tmps:=over T.2.2 x.tmps,todo:=o8 T.1.2 x.todo}
theorem Q0(x:Frame):iR O0 x=x:=by
 unfold iR O0 over o8;simp
def uz(T:xH)(fr:Frame):List Frame->Frame
 | []=>iR T fr
 | _::_=>fr
def yR(T:xH):List Frame->List Frame
 | []=>[]
 | c::cs=>uz T c cs::yR T cs
theorem yj(x:Frame)(cs:List Frame):uz O0 x cs=x:=by
 cases cs with
 | nil=>exact Q0 x
 | cons=>rfl
theorem yD:∀ cs:List Frame,yR O0 cs=cs
 | []=>rfl
 | c::cs=>by rw[yR,yj,yD cs]
theorem rF.eqT{T:xH}(hR:∀ a b,R a b->a=b){x y:Frame}(h:rF P R L K T x y):y=iR T x:=by
 obtain⟨fn,tmps,todo,defers,mode,kind,ro⟩:=x;obtain⟨fn',bQ,todo',defers',Ke,kind',ro'⟩:=y;obtain⟨h1,⟨tm,h2,h2'⟩,h3,h4,⟨d,h5,h5'⟩,h6,h7,h8,h8',h9,h10⟩:=h;simp only at h1 h2 h2' h3 h4 h5 h5' h6 h7 h8 h8' h9 h10;have hm:mode=Ke:=by
  cases h6 with
  | run=>rfl
  | returning=>rfl
  | panicking h=>rw[h.eq hR]
 unfold iR;rw[h1,h2',h2.eq hR,h3.cut,h5,h5'.eq hR,hm,h7,h9,h10]
theorem SL.eqT{T:xH}(hR:∀ a b,R a b->a=b){x y:Frame}{a b:List Frame}(h:SL P R L K Z T [] [] x a y b):y=uz T x a/\b=yR T a:=by
 induction h with
 | bot h _ _ _=>exact⟨h.eqT hR,rfl⟩
 | up h _ k ih=>exact⟨(h.eqT hR).trans (Q0 _),by rw[yR,<-ih.1,<-ih.2]⟩
theorem SL.abs{T:xH}{x y:Frame}{a b:List Frame}(h:SL P R L K Z T [] [] x a y b):SL P R L K Z T B dI x (a++B) y (b++dI):=by
 induction h with
 | bot h hk hz hT=>exact .bot h hk hz hT
 | up h hz k ih=>exact .up h hz ih
theorem SL.rel{T:xH}{x y:Frame}{X Y:List Frame}(h:SL P R L K Z T B dI x X y Y):∃ a b,X=a++B/\Y=b++dI/\SL P R L K Z T [] [] x a y b:=by
 induction h with
 | bot h hk hz hT=>exact⟨[],[],rfl,rfl,.bot h hk hz hT⟩
 | @up x y c c' cs cs' h hz k ih =>
  obtain⟨a,b,rfl,rfl,h2⟩:=ih;exact⟨c::a,c'::b,rfl,rfl,.up h hz h2⟩
def OkT(T:xH):Prop:=T.2.1 .normal=.normal\/T.2.1 .normal=.deferred
def UQ(P:Program)(L:FuncId->Bool)(K:Op->Bool)(T:xH):Frame->List Frame->Prop
 | fr,[]=>Items P L K T.2.2 fr.todo/\TdI T.1.2 fr.todo
 | _,c::cs=>UQ P L K T c cs
theorem SL.itB{T:xH}{x y:Frame}{a b:List Frame}(h:SL P R L K Z T [] [] x a y b):UQ P L K T x a:=by
 induction h with
 | bot h _ _ _=>exact⟨h.items,h.todo.td⟩
 | up h _ k ih=>exact ih
theorem SL.opt{T:xH}(hT:OkT T){x y:Frame}{a b:List Frame}(h:SL P R L K true O0 [] [] x a y b)(hi:UQ P L K T x a):SL P R L K true T [] [] x a (uz T y b) (yR T b):=by
 induction h with
 | @bot x y h hk hz _ =>
  obtain⟨d,h1,h2⟩:=h.defers;obtain⟨tm,t1,t2⟩:=h.tmps;have e:y.defers=d:=by rw[h1];exact Qq _
  have et:y.tmps=tm:=t2;have hky:y.kind=x.kind:=h.kind;have etd:y.todo=x.todo:=h.todo;refine .bot ⟨h.fn,⟨tm,t1,by show over T.2.2 y.tmps=_;rw[et]⟩,by show Ak T.1.2 x.todo (o8 T.1.2 y.todo);rw[etd];exact hi.2.cut,hi.1,⟨d,by show y.defers++T.1.1=_;rw[e],h2⟩,h.mode,by show T.2.1 y.kind=_;rw[hky],h.norm,?_,h.ro,h.ro'⟩ hk hz (fun z=>by cases z);show T.2.1 y.kind=.normal\/T.2.1 y.kind=.deferred;rw[hky,hk];exact hT
 | @up x y c c' cs cs' h hz k ih=>exact .up h hz (ih hi)
structure Self(P:Program)(L:FuncId->Bool)(K:Op->Bool)(Z:Bool)(S:Nat->Prop)(D:Nat->Prop)(fr:Frame)(cs:List Frame)(w:World):Prop where
 off:∀ b,S b->¬ D b/\b<w.heap.size
 gb:GB P (mQ D)
 bnd:∀ a,D a->a<w.heap.size
 heap:HR (mQ D) L w.heap w.heap
 sl:SL P (mQ D) L K Z O0 [] [] fr cs fr cs
theorem Self.tp{S D:Nat->Prop}{fr:Frame}{cs:List Frame}{w:World}(h:Self P L K Z S D fr cs w)(τ:Nat->Question->Nat)(d:Nat):Self P L K Z S D fr cs (Cc.tp w τ d):=⟨h.off,h.gb,h.bnd,h.heap,h.sl⟩
theorem Ht{D:Nat->Prop}{n k:Nat}:∀ a b,ext (mQ D) n n k a b->a=b:=by
 rintro a b (h|⟨i,_,rfl,rfl⟩)
 .exact h.1
 .rfl
def grown(D:Nat->Prop)(n k:Nat)(a:Nat):Prop:=D a\/(n<=a/\a<n+k)
theorem bX{D:Nat->Prop}{n k:Nat}:∀ a b,ext (mQ D) n n k a b↔mQ (grown D n k) a b:=by
 intro a b;constructor
 .rintro (⟨rfl,h⟩|⟨i,hi,rfl,rfl⟩)
  .exact⟨rfl,.inl h⟩
  .exact⟨rfl,.inr (by omega)⟩
 .rintro⟨rfl,h|h⟩
  .exact .inl ⟨rfl,h⟩
  .exact .inr ⟨a-n,by omega,by omega,by omega⟩
theorem Ql{D:Nat->Prop}{w w' ω':World}{k:Nat}(hk:w'.heap.size=w.heap.size+k){ω:World}(hw:ω.heap=w.heap){g es:Array Event}(h:Wd (ext (mQ D) w.heap.size w.heap.size k) L w ω w' ω' #[] g #[] es):ω'.heap=w'.heap:=by
 have hs:ω'.heap.size=w'.heap.size:=by have:=h.size;rw[hw] at this;omega
 refine qcv fun i=>?_
 by_cases hi:∃ b,ext (mQ D) w.heap.size w.heap.size k i b
 .obtain⟨b,hb⟩:=hi;have:=Ht _ _ hb;subst this;exact(OO.eq Ht (h.heap _ _ hb)).symm
 .by_cases hlt:i<w.heap.size
  .have h1:ω'.heap[i]? = ω.heap[i]?:=h.frame i (by rw[hw];exact hlt) fun a ha=>by
    have:=Ht _ _ ha;subst this;exact hi ⟨_,ha⟩
   have h2:=h.Dm i hlt fun b hb=>hi ⟨b,hb⟩
   rw[h1,h2,hw]
  .by_cases hlt2:i<w.heap.size+k
   .exact absurd ⟨i,.inr ⟨i-w.heap.size,by omega,by omega,by omega⟩⟩ hi
   .rw[MW (by omega),MW (by omega)]
def blk:Loc->Option Nat
 | .cell a=>some a.block
 | .obj r=>some r
 | _=>none
structure Kn(P:Program)(L:FuncId->Bool)(K:Op->Bool)(S:Nat->Prop)(fr:Frame)(cs:List Frame)(w:World)(fr':Frame)(cs':List Frame)(w':World):Prop where
 eqT:∀ T B main τ d,OkT T->UQ P L K T fr cs->Tape w (Cc.tp w τ d) w'.drawn->UQ P L K T fr' cs'/\∃ es,stepG P main (G (uz T fr cs) (yR T cs++B)) (Cc.tp w τ d)=.go (G (uz T fr' cs') (yR T cs'++B)) (Cc.tp w' τ (d+(w'.drawn-w.drawn))) es/\∀ e∈es,Ev (fun _ b=>¬ S b) w'.heap.size e
 drawn:w.drawn<=w'.drawn
 tape:w'.tape=w.tape
 size:w.heap.size<=w'.heap.size
 frame:∀ b,S b->w'.heap[b]? = w.heap[b]?
theorem Kn.eq{S:Nat->Prop}{fr:Frame}{cs:List Frame}{w:World}{fr':Frame}{cs':List Frame}{w':World}(h:Kn P L K S fr cs w fr' cs' w')(h0:UQ P L K O0 fr cs):∀ B main τ d,Tape w (Cc.tp w τ d) w'.drawn->∃ es,stepG P main (G fr (cs++B)) (Cc.tp w τ d)=.go (G fr' (cs'++B)) (Cc.tp w' τ (d+(w'.drawn-w.drawn))) es/\∀ e∈es,Ev (fun _ b=>¬ S b) w'.heap.size e:=by
 intro B main τ d ht;have:=(h.eqT O0 B main τ d (.inl rfl) h0 ht).2;rw[yj,yj,yD,yD] at this;exact this
theorem Ev.imp{R':Nat->Nat->Prop}{n:Nat}{e:Event}(hR:∀ a b,R a b->R' a b)(h:Ev R n e):Ev R' n e:=by
 rcases h with⟨a,b,h1,h2,h3,h4⟩|⟨r,b,h1,h2,h3,h4⟩|h
 .exact .inl ⟨a,b,h1,hR _ _ h2,h3,h4⟩
 .exact .inr (.inl ⟨r,b,h1,hR _ _ h2,h3,h4⟩)
 .exact .inr (.inr h)
theorem KP(hK:vB P L K)(hL:∀ f,L f=true->fK P f){S D:Nat->Prop}{fr:Frame}{cs:List Frame}{w:World}(hs:Self P L K true S D fr cs w)(hn:dS P L true fr){B:List Frame}{main:Bool}(hf:cs=[]->fr.mode=.run\/fr.defers≠[])(hlive:¬ oF (stepG P main (G fr (cs++B)) w)):∃ fr' cs' w' D',Kn P L K S fr cs w fr' cs' w'/\Self P L K true S D' fr' cs' w'/\∀ a,D a->D' a:=by
 have hb:FZ (mQ D) w.heap.size w.heap.size:=fun a b h=>⟨hs.bnd a h.2,h.1 ▸ hs.bnd a h.2⟩
 have hf':∀ B:List Frame,cs++B=B->fr.mode=.run\/fr.defers≠[]:=fun B h=>hf (by
  have:=congrArg List.length h;simp at this;exact this)
 obtain⟨k,hk,hsg,hwd⟩:=xV (dK:=main) hs.gb hK hL hb hs.heap (hs.sl.abs (B:=B) (dI:=B)) hn (hf' B) hlive (fun i _=>rfl);generalize hst:stepG P main (G fr (cs++B)) w=s at hlive hk hsg hwd
 cases hsg with
 | comm hz _ _ _ _=>cases hz
 | @go fr' _ X _ w' _ es _ hsl =>
  obtain⟨cs',χ,rfl,e2,hrel⟩:=hsl.rel;obtain rfl:=qb6 e2;have ahG:=hrel;have hw':=hwd.world;simp only[gw] at hw' hk;have aft:w'.tape=w.tape:=by rw[hw']
  have hself:w'={w with heap:=w'.heap,drawn:=w.drawn+(w'.drawn-w.drawn)}:=hw';have hdr:w.drawn<=w'.drawn:=by
   have:=congrArg World.drawn hself;simp only at this;omega
  refine⟨fr',cs',w',grown D w.heap.size k,⟨?_,hdr,aft,by omega,fun b hb=>hwd.Dm b (hs.off b hb).2 ?_⟩,⟨fun b hb=>⟨?_,by have:=(hs.off b hb).2;omega⟩,?_,?_,?_,?_⟩,fun a h=>.inl h⟩
  .intro T dI dK τ d hT hi ht;obtain⟨k₂,hk₂,Qa,Da⟩:=xV (dK:=dK) (ω:=Cc.tp w τ d) hs.gb hK hL hb hs.heap ((hs.sl.opt hT hi).abs (B:=B) (dI:=dI)) hn (hf' B) (by rw[hst];exact hlive) (by rw[hst];exact ht);rw[hst] at hk₂ Qa Da;generalize ahe:stepG P dK (G (uz T fr cs) (yR T cs++dI)) (Cc.tp w τ d)=s₂ at Qa Da
   cases Qa with
   | @go _ ahI _ ah2 _ ψ' _ Ω ady =>
    obtain⟨a,b,e1,rfl,QM⟩:=ady.rel;have e1:a=cs':=by simpa using e1.symm
    subst e1;have hit:=QM.itB;obtain⟨rfl,rfl⟩:=QM.eqT Ht;have hh:=Ql (k:=k₂) hk₂ (ω:=Cc.tp w τ d) rfl Da;have abJ:=Da.world;simp only[gw] at abJ hh;refine⟨hit,Ω,?_,?_⟩
    .rw[abJ,hh];congr 1;rw[hself];simp only[Cc.tp]
    .obtain⟨l,_,hl1,hl2⟩:=Da.ev;have hl1:Ω=#[]++(l.map (·.2)).toArray:=hl1;simp only[gw] at hl2;rw[hh] at hl2;rw[hl1];intro e he;have he:e∈l.map (·.2):=by simpa using he
     obtain⟨p,hp,rfl⟩:=ZW.1 he;refine(hl2 p hp).ev.imp fun a b hab hb=>?_
     rcases hab with hab|⟨i,_,_,rfl⟩
     .exact(hs.off b hb).1 (hab.1 ▸ hab.2)
     .have:=(hs.off _ hb).2;have e:(Cc.tp w τ d).heap.size=w.heap.size:=rfl;omega
  .rintro x (h|⟨i,_,rfl,_⟩)
   .exact(hs.off b hb).1 h.2
   .have:=(hs.off _ hb).2;omega
  .rintro (h|h)
   .exact(hs.off b hb).1 h
   .have:=(hs.off b hb).2;omega
  .have:=hs.gb.ext hb k;exact⟨⟨fun a a' b h h'=>this.inj a a' b ((bX _ _).2 h) ((bX _ _).2 h'),fun a b b' h h'=>this.fn a b b' ((bX _ _).2 h) ((bX _ _).2 h')⟩,fun g hg b h=>this.g1 g hg b ((bX _ _).2 h),fun g hg a h=>this.g2 g hg a ((bX _ _).2 h),fun g hg=>(bX _ _).1 (this.gl g hg)⟩
  .rintro a (h|h)
   .have:=hs.bnd a h;omega
   .omega
  .have hh:=Ql (k:=k) hk (ω:=w) rfl hwd;have h1:=hwd.heap;simp only[gw] at h1;exact⟨fun b b' hbb=>(h1 b b' ((bX _ _).2 hbb)).mono fun a b h=>(bX _ _).1 h,h1.opq,fun a b hab=>h1.Af a b ((bX _ _).2 hab)⟩
  .have h2:=hrel.mono (R':=mQ (grown D w.heap.size k)) fun a b h=>(bX a b).1 h
   exact h2
end
end Sr
end
section
open Go.Conc
namespace Cc
inductive Tree(P:Program)(Q:Frame->World->Prop):Frame->List Frame->World->Prop
 | stop (fr:Frame) (w:World) (h:OkR P fr) (hq:∀ d,Q fr (w.at d)):Tree P Q fr [] w
 | step (fr:Frame) (cs:List Frame) (w:World) (n:Nat->Nat) (fr':Nat->Frame) (cs':Nat->List Frame) (w':Nat->World) (es:Nat->Array Event) (h:∀ d,Ez P fr cs (w.at d) (n d) (fr' d) (cs' d) (w' d) (es d)) (ht:∀ d,Tree P Q (fr' d) (cs' d) (w' d)):Tree P Q fr cs w
theorem Tree.step'{P:Program}{Q:Frame->World->Prop}{fr:Frame}{cs:List Frame}{w:World}(h:∀ d,∃ n fr' cs' w' es,Ez P fr cs (w.at d) n fr' cs' w' es/\Tree P Q fr' cs' w'):Tree P Q fr cs w:=by
 have h':∀ d,∃ r:Nat×Frame×List Frame×World×Array Event,Ez P fr cs (w.at d) r.1 r.2.1 r.2.2.1 r.2.2.2.1 r.2.2.2.2/\Tree P Q r.2.1 r.2.2.1 r.2.2.2.1:=fun d=>by
  obtain⟨n,fr',cs',w',es,h1,h2⟩:=h d;exact⟨(n,fr',cs',w',es),h1,h2⟩
 obtain⟨g,hg⟩:=qbU.1 h';exact .step fr cs w (fun d=>(g d).1) (fun d=>(g d).2.1) (fun d=>(g d).2.2.1) (fun d=>(g d).2.2.2.1) (fun d=>(g d).2.2.2.2) (fun d=>(hg d).1) (fun d=>(hg d).2)
abbrev St:=Frame×List Frame×World
section
variable (P:Program)(L:List FuncId)(Q:Frame->World->Prop)(T0:Nat->Question->Nat)
def Final(s:St):Prop:=s.2.1=[]/\OkR P s.1
structure Stuck(s:St):Prop where
 fr:MQ P L s.1\/OkR P s.1
 cs:∀ c∈s.2.1,MQ P L c
 tape:s.2.2.tape=T0
 no:¬ Tree P Q s.1 s.2.1 s.2.2
def Spec(x:{s // Stuck P L Q T0 s})(r:Nat×Nat×Option {s // Stuck P L Q T0 s}):Prop :=
 match r.2.2 with
 | some y=>¬ Final P x.1/\∃ es,Ez P x.1.1 x.1.2.1 (x.1.2.2.at r.1) r.2.1 y.1.1 y.1.2.1 y.1.2.2 es
 | none=>(Final P x.1/\¬ Q x.1.1 (x.1.2.2.at r.1)) \/
   (¬ Final P x.1/\((∃ fr' w' es,(∀ B τ d,(∀ i,i<r.2.1->τ (d+i)=(x.1.2.2.at r.1).tape ((x.1.2.2.at r.1).drawn+i))->stepG P true (G x.1.1 (x.1.2.1++B)) (tp (x.1.2.2.at r.1) τ d)=.go (G fr' (x.1.2.1++B)) (tp w' τ (d+r.2.1)) es)/\Pan P fr') \/
    ∀ B τ d,(∀ i,i<r.2.1->τ (d+i)=(x.1.2.2.at r.1).tape ((x.1.2.2.at r.1).drawn+i))->∃ o w' es,stepG P true (G x.1.1 (x.1.2.1++B)) (tp (x.1.2.2.at r.1) τ d)=.ended o w' es))
end
section
variable {P:Program}{L:List FuncId}{Q:Frame->World->Prop}{T0:Nat->Question->Nat}
theorem Jd(hP:fO P L)(x:{s // Stuck P L Q T0 s}):∃ r,Spec P L Q T0 x r:=by
 obtain⟨⟨fr,cs,w⟩,hx⟩:=x;obtain⟨h1,h2,h3,h4⟩:=hx;simp only at h1 h2 h3 h4;by_cases hf:Final P (fr,cs,w)
 .obtain⟨hc,hr⟩:=hf;simp only at hc hr;subst hc;have:¬ ∀ d,Q fr (w.at d):=fun hq=>h4 (.stop fr w hr hq)
  obtain⟨d,hd⟩:=qbV.1 this;exact⟨(d,0,none),.inl ⟨⟨rfl,hr⟩,hd⟩⟩
 .have hst:¬ ∀ d,∃ n fr' cs' w' es,Ez P fr cs (w.at d) n fr' cs' w' es/\Tree P Q fr' cs' w':=fun h=>h4 (Tree.step' h)
  obtain⟨d,hd⟩:=qbV.1 hst;have hs:DX P L fr cs (w.at d):=by
   rcases h1 with⟨fn,tmps,todo,rfl,hfn,hi⟩|⟨fn,tmps,todo,rfl,hfn⟩
   .exact Vx hP hfn hi h2
   .cases cs with
    | nil=>exact absurd ⟨rfl,fn,tmps,todo,rfl,hfn⟩ hf
    | cons c cs=>exact WC hfn h2
  cases hs with
  | go n fr' cs' w' es hg k1 k2 =>
   refine⟨(d,n,some ⟨(fr',cs',w'),⟨k1,k2,?_,fun ht=>hd ⟨n,fr',cs',w',es,hg,ht⟩⟩⟩),hf,es,hg⟩;exact hg.tape.trans h3
  | panic n fr' w' es hg k1=>exact⟨(d,n,none),.inr ⟨hf,.inl ⟨fr',w',es,hg,k1⟩⟩⟩
  | ended n h=>exact⟨(d,n,none),.inr ⟨hf,.inr h⟩⟩
theorem abH(n d:Nat->Nat):∃ (D:Nat->Nat)(τ:Nat->Question->Nat),D 0=0/\(∀ k,D (k+1)=D k+n k)/\∀ k i,i<n k->τ (D k+i)=T0 (d k+i):=by
 let D:Nat->Nat:=fun k=>Nat.rec 0 (fun k a=>a+n k) k
 have hD:∀ k,D (k+1)=D k+n k:=fun k=>rfl
 have mono:∀ k j,k<=j->D k<=D j:=by
  intro k j h
  induction h with
  | refl=>exact aY _
  | step _ ih=>rw[hD];omega
 classical
 refine⟨D,fun x=>if h:∃ k,D k<=x/\x<D (k+1) then T0 (d h.choose+(x-D h.choose)) else T0 x,rfl,hD,fun k i hi=>?_⟩;have hex:∃ j,D j<=D k+i/\D k+i<D (j+1):=⟨k,by omega,by rw[hD];omega⟩
 have acy:hex.choose=k:=by
  obtain⟨h1,h2⟩:=hex.choose_spec;rcases qcx hex.choose k with h|h|h
  .have:=mono (hex.choose+1) k h;omega
  .exact h
  .have:=mono (k+1) hex.choose h;rw[hD] at this;omega
 dsimp only
 rw[dif_pos hex,acy,qbu]
theorem jX{f:FuncId}{fn:Func}{tmps:Array Value}{w:World}{v:Value}(h:(results fn tmps).run P w=.ok v w):∀ τ d,(results fn tmps).run P (tp w τ d)=.ok v (tp w τ d):=by
 intro τ d;obtain⟨n,r,es',hr⟩:=dZ (kS (P:=P) fn tmps) w #[];have h1:((results fn tmps).runT P w #[]).1=.ok v w:=by rw[Sem.runT_fst];exact h
 rw[hr.eq] at h1;simp only at h1;subst h1;have hn:n=0:=by have:=hr.drawn;simp only[rw] at this;omega
 subst hn;have h2:=hr.nat τ d (fun i hi=>by omega);have h3:((results fn tmps).runT P (tp w τ d) #[]).1=.ok v (tp w τ d):=by rw[h2];rfl
 rw[Sem.runT_fst] at h3;exact h3
end
theorem uM{P:Program}{L:List FuncId}(hP:fO P L){QT:Frame}{w:World}(h0:MQ P L QT){Rr:Value->World->Prop}(hC:∀ τ d,∃ v w' fr,Rr v w'/\Steps P (lone QT [c0] (tp w τ d)) (lone fr [c0] w')/\fr.leaving P w' (.returned v)/\fr.fn=QT.fn)(hR:∀ v w' τ d,Rr v w'->Rr v (tp w' τ d)):Tree P (fun fr w'=>∃ fn v,P.funcs[fr.fn]? = some fn/\(results fn fr.tmps).run P w'=.ok v w'/\Rr v w'/\fr.fn=QT.fn) QT [] w:=by
 apply qba;intro hno
 let Q:Frame->World->Prop:=fun fr w'=>∃ fn v,P.funcs[fr.fn]? = some fn/\(results fn fr.tmps).run P w'=.ok v w'/\Rr v w'/\fr.fn=QT.fn
 have hs0:Stuck P L Q w.tape (QT,[],w):=⟨.inl h0,by simp,rfl,hno⟩;obtain⟨g,hg⟩:=qbU.1 (fun x:{s // Stuck P L Q w.tape s}=>Jd hP x)
 let p:Nat->Option {s // Stuck P L Q w.tape s}:=fun k=>Nat.rec (some ⟨_,hs0⟩) (fun _ o=>o.bind fun x=>(g x).2.2) k
 have hp0:p 0=some ⟨_,hs0⟩:=rfl;have hp1:∀ k,p (k+1)=(p k).bind fun x=>(g x).2.2:=fun k=>rfl
 obtain⟨D,τ,hD0,hD,hτ⟩:=abH (T0:=w.tape) (fun k=>((p k).map fun x=>(g x).2.1).getD 0) (fun k=>((p k).map fun x=>(g x).1).getD 0);have Ja:∀ k x,p k=some x->∀ i,i<(g x).2.1->τ (D k+i)=(x.1.2.2.at (g x).1).tape ((x.1.2.2.at (g x).1).drawn+i):=by
  intro k x hk i hi;have h1:=hτ k i (by simp only[hk,MK,Option.getD_some];exact hi);simp only[hk,MK,Option.getD_some] at h1;rw[h1];exact(congrFun x.2.tape ((g x).1+i)).symm
 have hA:∀ k x,p k=some x->runN P k (lone QT [c0] (tp w τ 0))=.next (lone x.1.1 (x.1.2.1++[c0]) (tp x.1.2.2 τ (D k))):=by
  intro k
  induction k with
  | zero =>
   intro x hk;rw[hp0] at hk
   cases hk
   rw[hD0];rfl
  | succ k ih =>
   intro y hk;rw[hp1] at hk
   cases hpk:p k with
   | none=>rw[hpk] at hk;cases hk
   | some x =>
    rw[hpk] at hk;simp only[Option.bind_some] at hk;have hsp:=hg x;unfold Spec at hsp;rw[hk] at hsp;obtain⟨_,es,hgo⟩:=hsp;have hst:=hgo.eq [c0] τ (D k) (Ja k x hpk);have hDk:D (k+1)=D k+(g x).2.1:=by rw[hD];simp only[hpk,MK,Option.getD_some]
    rw[runN_add,ih x hpk,hDk];simp only[runN];have:=jN hst;rw[show tp (x.1.2.2.at (g x).1) τ (D k)=tp x.1.2.2 τ (D k) from rfl] at this;rw[this]
 obtain⟨v,w',fr,hRr,hcomes,hleave,ag1⟩:=hC τ 0;obtain⟨N,hN⟩:=hcomes;obtain⟨hm,hdf,hkd,fn,ag4,hres⟩:=hleave
 cases hpN:p N with
 | some x =>
  have h1:=hA N x hpN;rw[hN] at h1;simp only[Stepped.next.injEq] at h1;obtain⟨e1,e2,e3⟩:=lS h1;have hcs:x.1.2.1=[]:=by
   cases hx:x.1.2.1 with
   | nil=>rfl
   | cons a l=>rw[hx] at e2;simp at e2
  have hok:OkR P x.1.1:=by
   rcases x.2.fr with⟨fn,tmps,todo,h,_⟩|h
   .rw[e1,h] at hm;cases hm
   .exact h
  have hfin:Final P x.1:=⟨hcs,hok⟩;have hsp:=hg x;unfold Spec at hsp
  cases hn:(g x).2.2 with
  | some y=>rw[hn] at hsp;exact hsp.1 hfin
  | none =>
   rw[hn] at hsp;rcases hsp with⟨_,hq⟩|⟨h,_⟩
   .refine hq ⟨fn,v,by rw[<-e1];exact ag4,?_,?_⟩
    .have:=jX (f:=0) hres x.1.2.2.tape (g x).1;rw[<-e1,e3] at *
     exact this
    .have:=hR v w' x.1.2.2.tape (g x).1 hRr;rw[e3] at this;exact⟨this,by rw[<-e1];exact ag1⟩
   .exact h hfin
 | none =>
  have hlast:∃ k x,k<N/\p k=some x/\(g x).2.2=none:=by
   have:∀ M,p M=none->∃ k x,k<M/\p k=some x/\(g x).2.2=none:=by
    intro M
    induction M with
    | zero=>intro h;rw[hp0] at h;cases h
    | succ M ih =>
     intro h
     cases hpM:p M with
     | none=>obtain⟨k,x,h1,h2⟩:=ih hpM;exact⟨k,x,by omega,h2⟩
     | some x=>rw[hp1,hpM] at h;exact⟨M,x,by omega,hpM,h⟩
   exact this N hpN
  obtain⟨k,x,hkN,hpk,hgx⟩:=hlast;have hk:=hA k x hpk;obtain⟨M,rfl⟩:∃ M,N=k+(M+1):=⟨N-k - 1,by omega⟩
  rw[runN_add,hk] at hN;simp only[runN] at hN;have hsp:=hg x;unfold Spec at hsp;rw[hgx] at hsp;have hag:=Ja k x hpk;rcases hsp with⟨⟨hcs,fn',tmps,todo,hfr,hfi⟩,_⟩|⟨hnf,⟨fr',w'',es,hgo,ZY⟩|hend⟩
  .obtain⟨n,hret⟩:=QN (P:=P) (tmps:=tmps) (todo:=todo) (w:=tp x.1.2.2 τ (D k)) hfi;rw[hcs,hfr] at hN;rcases hret with⟨v',w'',es,_,_,_,_,h5⟩|h5
   .have:=jN (h5 c0 [] τ (D k) (fun i _=>rfl));rw[V8] at this;simp only[yG] at hN;rw[this] at hN;exact U9 v' _ M fr w' hN hm
   .obtain⟨o,w'',es,h6⟩:=h5 c0 [] τ (D k) (fun i _=>rfl);rw[V8] at h6;simp only[yG] at hN;rw[eB h6] at hN
    cases hN
  .have:=jN (hgo [c0] τ (D k) hag);rw[show tp (x.1.2.2.at (g x).1) τ (D k)=tp x.1.2.2 τ (D k) from rfl] at this;rw[this] at hN;exact Gl ZY x.2.cs M fr w' hN hm
  .obtain⟨o,w'',es,h6⟩:=hend [c0] τ (D k) hag;rw[show tp (x.1.2.2.at (g x).1) τ (D k)=tp x.1.2.2 τ (D k) from rfl] at h6;rw[eB h6] at hN
   cases hN
theorem FM{P:Program}{L:List FuncId}(hP:fO P L){f:FuncId}{args:Array Value}{w:World}(hf:oD P L f=true){Rr:Value->World->Prop}(hC:∀ τ d,Calls P f args (tp w τ d) fun e w'=>∃ v,e=.returned v/\Rr v w')(hR:∀ v w' τ d,Rr v w'->Rr v (tp w' τ d)):Tree P (fun fr w'=>∃ fn v,P.funcs[fr.fn]? = some fn/\(results fn fr.tmps).run P w'=.ok v w'/\Rr v w'/\fr.fn=(Frame.enter P f args .normal).fn) (Frame.enter P f args .normal) [] w :=uM hP (Ri hP hf args) (fun τ d=>by
  obtain⟨e,w',fr,⟨v,rfl,hRr⟩,hcomes,hfn,hleave⟩:=hC τ d [c0];exact⟨v,w',fr,hRr,hcomes,hleave,hfn.trans rfl⟩) hR
theorem DU{P:Program}{L:List FuncId}(hP:fO P L){f:FuncId}{fn:Func}{c:Code}{tmps:Array Value}{w:World}(hf:P.funcs[f]? = some fn)(hc:gU P L c=true){Rr:Value->World->Prop}(hC:∀ τ d,c.wp P (bodyPost P fn fun e w'=>∃ v,e=.returned v/\Rr v w') {tmps,defers:=[]} (tp w τ d))(hR:∀ v w' τ d,Rr v w'->Rr v (tp w' τ d)):Tree P (fun fr w'=>∃ fn v,P.funcs[fr.fn]? = some fn/\(results fn fr.tmps).run P w'=.ok v w'/\Rr v w'/\fr.fn=f) (F f tmps [.code c]) [] w :=uM hP ⟨f,tmps,[.code c],rfl,by rw[hf];rfl,fun x hx=>by rw[qbk] at hx;subst hx;exact hc⟩ (fun τ d=>by
  obtain⟨e,a',w',hq,harr⟩:=hC τ d (F f #[] []) [] [c0]
  cases e with
  | normal =>
   obtain⟨hd,v,hr,v',hv,hR⟩:=hq
   cases hv
   exact⟨v,w',_,hR,Steps.trans harr (.one step_end),⟨rfl,hd,rfl,fn,hf,hr⟩,rfl⟩
  | ret =>
   obtain⟨hd,v,hr,v',hv,hR⟩:=hq
   cases hv
   obtain⟨todo,hs⟩:=harr;exact⟨v,w',_,hR,hs,⟨rfl,hd,rfl,fn,hf,hr⟩,rfl⟩
  | panic chain=>obtain⟨_,v,h,_⟩:=hq;cases h
  | exit id=>exact hq.elim
  | goto l=>exact hq.elim
  | outgrown=>obtain⟨v,h,_⟩:=hq;cases h) hR
end Cc
end
section
open Go.Conc
open Cc (c0 tp jN eB lS)
namespace Sr
inductive GT(P:Program)(L:FuncId->Bool)(K:Op->Bool)(S:Nat->Prop)(Φ:Frame->List Frame->World->Prop):Frame->List Frame->World->Prop
 | stop {fr:Frame} {cs:List Frame} {w:World} (h:∀ τ d,Φ fr cs (tp w τ d)):GT P L K S Φ fr cs w
 | step {fr:Frame} {cs:List Frame} {w:World} (hn:dS P L true fr) (hf:cs=[]->fr.mode=.run\/fr.defers≠[]) (fr':(Nat->Question->Nat)->Nat->Frame) (cs':(Nat->Question->Nat)->Nat->List Frame) (w':(Nat->Question->Nat)->Nat->World)
   (h:∀ τ d,Kn P L K S fr cs (tp w τ d) (fr' τ d) (cs' τ d) (w' τ d)) (ht:∀ τ d,GT P L K S Φ (fr' τ d) (cs' τ d) (w' τ d)):GT P L K S Φ fr cs w
section
variable {P:Program}{L:FuncId->Bool}{K:Op->Bool}{S:Nat->Prop}{Φ Ψ:Frame->List Frame->World->Prop}
theorem GT.step'{fr:Frame}{cs:List Frame}{w:World}(hn:dS P L true fr)(hf:cs=[]->fr.mode=.run\/fr.defers≠[])(h:∀ τ d,∃ fr' cs' w',Kn P L K S fr cs (tp w τ d) fr' cs' w'/\GT P L K S Φ fr' cs' w'):GT P L K S Φ fr cs w:=by
 have h':∀ r:(Nat->Question->Nat)×Nat,∃ s:Frame×List Frame×World,Kn P L K S fr cs (tp w r.1 r.2) s.1 s.2.1 s.2.2/\GT P L K S Φ s.1 s.2.1 s.2.2:=fun r=>by
  obtain⟨fr',cs',w',h1,h2⟩:=h r.1 r.2;exact⟨(fr',cs',w'),h1,h2⟩
 obtain⟨g,hg⟩:=qbU.1 h';exact .step hn hf (fun τ d=>(g (τ,d)).1) (fun τ d=>(g (τ,d)).2.1) (fun τ d=>(g (τ,d)).2.2) (fun τ d=>(hg (τ,d)).1) (fun τ d=>(hg (τ,d)).2)
def Dn(n:Nat->Nat):Nat->Nat
 | 0=>0
 | k+1=>Dn n k+n k
theorem Jy(n:Nat->Nat){k j:Nat}(h:k<=j):Dn n k<=Dn n j:=by
 induction h with
 | refl=>exact aY _
 | step _ ih=>simp only[Dn];omega
theorem glue(n:Nat->Nat)(T:Nat->Nat->Question->Nat)(E:Nat->Question->Nat):∃ τ:Nat->Question->Nat,(∀ k i,i<n k->τ (Dn n k+i)=T k i)/\∀ x,(∀ k,Dn n k<=x)->τ x=E x:=by
 classical
 refine⟨fun x=>if h:∃ k,Dn n k<=x/\x<Dn n (k+1) then T h.choose (x-Dn n h.choose) else E x,fun k i hi=>?_,fun x hx=>?_⟩
 .have hex:∃ j,Dn n j<=Dn n k+i/\Dn n k+i<Dn n (j+1):=⟨k,by omega,by simp only[Dn];omega⟩
  have acy:hex.choose=k:=by
   obtain⟨h1,h2⟩:=hex.choose_spec;rcases qcx hex.choose k with h|h|h
   .have:=Jy n (k:=hex.choose+1) (j:=k) h;omega
   .exact h
   .have:=Jy n (k:=k+1) (j:=hex.choose) h;have e:Dn n (k+1)=Dn n k+n k:=rfl;rw[e] at this;omega
  dsimp only
  rw[dif_pos hex,acy,qbu]
 .dsimp only
  rw[dif_neg];rintro⟨k,h1,h2⟩;have:=hx (k+1);omega
def Uz(P:Program)(v:Value):Prop:=v=.nilIface\/∃ u,v=.iface P.rt.panicNilError u
def XI(P:Program)(fr:Frame):Prop:=∃ v g,fr.mode=.panicking [{v,recovered:=false,goexit:=g}]/\Uz P v
def wL{α:Type}(P:Program)(C:α->Prop):Sem α->Prop
 | .pure a=>C a
 | .new _ k=>∀ n,wL P C (k n)
 | .sys _ k=>∀ r,wL P C (k r)
 | .program k=>wL P C (k P)
 | .halt h=>Bd h\/∃ v,h=.panic v/\Uz P v
 | _=>False
theorem tL{α β:Type}{C:α->Prop}{D:β->Prop}{f:α->Sem β}(hf:∀ a,C a->wL P D (f a)):∀ {s:Sem α},wL P C s->wL P D (s.bind f)
 | .pure a,h=>hf a h
 | .new o k,h=>fun n=>tL hf (h n)
 | .sys c k,h=>fun r=>tL hf (h r)
 | .program k,h=>tL (s:=k P) hf h
 | .halt x,h=>h
theorem mV{α β:Type}{C:α->Prop}{D:β->Prop}{f:α->Sem β}{s:Sem α}(hs:wL P C s)(hf:∀ a,C a->wL P D (f a)):wL P D (s >>= f):=tL hf hs
theorem xu{α:Type}:∀ {s:Sem α},wL P (fun _=>False) s->∀ (w:World)(es:Array Event),∃ h w' es',s.runT P w es=(.halt h w',es')/\(Bd h\/∃ v,h=.panic v/\Uz P v)
 | .pure a,h,w,es=>h.elim
 | .new o k,h,w,es=>xu (h w.heap.size) _ es
 | .sys c k,h,w,es=>xu (h (w.sys c).1) _ _
 | .program k,h,w,es=>xu (s:=k P) h w es
 | .halt x,h,w,es=>⟨x,w,es,rfl,h⟩
theorem OW(t:TypeId):wL P (fun _=>True) (underlying t):=by
 unfold underlying;show wL P _ (Sem.program fun q=>_);show wL P _ (match P.underlying t with|some d=>pure d|none=>stuck _)
 cases P.underlying t with
 | none=>exact .inl trivial
 | some d=>exact trivial
theorem FQ:wL P (fun _:Value=>False) (Instr.panic .nilIface):=by
 unfold Instr.panic;dsimp only
 refine mV (C:=fun _=>True) ?_ fun n _=>?_
 .unfold Instr.panicnil;refine mV (C:=fun _=>True) (fun r=>trivial) fun r _=>?_
  cases r with
  | strings env=>exact mV (C:=fun _=>True) (s:=program) trivial fun _ _=>trivial
  | _=>exact .inl trivial
 .split
  .exact .inr ⟨_,rfl,.inl rfl⟩
  .unfold runtimePanic;refine mV (C:=fun q=>q=P) (s:=program) rfl fun q hq=>?_
   subst hq;dsimp only
   refine mV (C:=fun _=>True) ?_ fun e _=>mV (C:=fun _=>True) ?_ fun r _=>.inr ⟨_,rfl,.inr ⟨_,rfl⟩⟩
   .unfold elemOf;refine mV (OW _) fun d _=>?_
    cases d <;> first|exact .inl trivial|exact trivial
   .unfold newVar newRow;refine mV (C:=fun _=>True) (fun n=>trivial) fun _ _=>trivial
theorem Ur{ρ:Operand->Value}{o:Oper}{x:Operand}(ho:o.op=.panic x)(hx:ρ x=.nilIface)(w:World):∃ h w' es',(execOp ρ o).runT P w #[]=(.halt h w',es')/\(Bd h\/∃ v,h=.panic v/\Uz P v):=by
 have e0:execOp ρ o=(do pure (.value (<- Instr.panic (ρ x)))):=by unfold execOp;rw[ho]
 rw[e0,hx];exact xu (mV FQ fun _ h=>h.elim) w #[]
theorem JG{fr c:Frame}{B:List Frame}{w:World}{ch:List PanicEntry}(hm:fr.mode=.panicking ch)(hd:fr.defers=[])(hc:fr.catches P=false)(main:Bool):stepG P main (G fr (c::B)) w=.go (G (c.raise ch) B) w #[]:=by
 rw[nC (by rw[hm];simp)];unfold unwind;rw[hd,hm];dsimp only
 rw[hc];rfl
theorem xC(ch:List PanicEntry)(w:World):∃ o w',step P (lone (c0.raise ch) [] w)=.ended o w':=⟨_,_,eB (es:=#[]) (o:=.unsupported (.noEntry "machine/Return: a deferred call of a nil function value, made while the frame is unwinding") (({c0 with mode:=.panicking ch,defers:=[]}:Frame).pos P)) (w':=w) (by
 simp[stepG,G,c0,Frame.raise,unwind,callDeferred])⟩
theorem uP(v:Value)(w:World):∃ o w',step P (lone (c0.finish v) [] w)=.ended o w':=⟨_,_,eB (es:=#[]) (o:=.unsupported (.elab "") ((c0.finish v).pos P)) (w':=w) (by
 simp[stepG,stepG.exec,G,c0,Frame.finish])⟩
def Gone(P:Program)(m:Machine):Prop:=∀ M fr cs w,runN P M m=.next (lone fr (cs++[c0]) w)->False
theorem Mx{fr:Frame}{w:World}(h:∃ o w',step P (lone fr [] w)=.ended o w'):Gone P (lone fr [] w):=by
 intro M fr' cs' w' hM
 cases M with
 | zero =>
  simp only[runN,Stepped.next.injEq] at hM;have:=(lS hM).2.1;simp at this
 | succ M =>
  obtain⟨o,w2,h⟩:=h;simp only[runN,h] at hM
  cases hM
theorem Aa{ch:List PanicEntry}:∀ {cs:List Frame}{fr:Frame}{w:World},fr.mode=.panicking ch->fr.defers=[]->fr.catches P=false->(∀ c∈cs,c.mode=.run/\c.defers=[]/\c.catches P=false) ->
  ∀ M fr' cs' w',runN P M (lone fr (cs++[c0]) w)=.next (lone fr' (cs'++[c0]) w')->fr'.mode=.panicking ch
 | [],fr,w,h1,h2,h3,_,M,fr',cs',w',hM=>by
  cases M with
  | zero =>
   simp only[runN,Stepped.next.injEq] at hM;rw[<-(lS hM).1];exact h1
  | succ M =>
   have hs:=jN (P:=P) (JG (c:=c0) (B:=[]) (w:=w) h1 h2 h3 true);simp only[yG,runN,hs] at hM;exact(Mx (xC ch w) M fr' cs' w' hM).elim
 | c::cs,fr,w,h1,h2,h3,h4,M,fr',cs',w',hM=>by
  cases M with
  | zero =>
   simp only[runN,Stepped.next.injEq] at hM;rw[<-(lS hM).1];exact h1
  | succ M =>
   have hs:=jN (P:=P) (JG (c:=c) (B:=cs++[c0]) (w:=w) h1 h2 h3 true);simp only[NJ,runN,hs] at hM;have hc:=h4 c (by simp);have hr:(c.raise ch).mode=.panicking ch/\(c.raise ch).todo=c.todo/\(c.raise ch).fn=c.fn:=by
    unfold Frame.raise;rw[hc.1];exact⟨rfl,rfl,rfl⟩
   refine Aa hr.1 ((qP c ch).2.trans hc.2.1) ?_ (fun x hx=>h4 x (by simp[hx])) M fr' cs' w' hM;have:=hc.2.2;unfold Frame.catches at this ⊢;rw[hr.2.1,hr.2.2];exact this
theorem SL.plain{R:Nat->Nat->Prop}{x y:Frame}{a b:List Frame}{T:xH}(h:SL P R L K true T [] [] x a y b):x.defers=[]/\x.catches P=false/\∀ c∈a,c.mode=.run/\c.defers=[]/\c.catches P=false:=by
 induction h with
 | bot h hk hz _=>exact⟨hz rfl,vV h.items,by simp⟩
 | @up x y c c' cs cs' h hz k ih =>
  refine⟨(hz rfl).1,vV h.items,fun z hz'=>?_⟩;rcases rD.1 hz' with rfl|hz'
  .exact⟨(hz rfl).2,ih.1,ih.2.1⟩
  .exact ih.2.2 z hz'
theorem Yh{fr:Frame}{w:World}(hm:fr.mode≠.run)(hd:fr.defers=[])(hc:fr.catches P=false)(hk:fr.kind=.normal):∀ M fr' cs' w',runN P (M+1) (lone fr [c0] w)=.next (lone fr' (cs'++[c0]) w')->False:=by
 intro M fr' cs' w' hM;have ended:(∃ o w' es,stepG P true (G fr [c0]) w=.ended o w' es)->False:=fun⟨o,w2,es,h⟩=>by
  simp only[runN,eB h] at hM
  cases hM
 have go:∀ c w2 es,stepG P true (G fr [c0]) w=.go (G c []) w2 es->(∃ o w',step P (lone c [] w2)=.ended o w')->False:=fun c w2 es h he=>by
  simp only[runN,jN h] at hM;exact Mx he M fr' cs' w' hM
 cases hmm:fr.mode with
 | run=>exact hm hmm
 | panicking ch=>exact go _ _ _ (JG hmm hd hc true) (xC ch w)
 | returning =>
  have hu:=nC (P:=P) (main:=true) (fr:=fr) (cs:=[c0]) (w:=w) hm
  cases hfn:P.funcs[fr.fn]? with
  | none =>
   refine go (c0.finish (fr.tmps.getD 0 au)) w #[] ?_ (uP _ _);rw[hu];unfold unwind;rw[hd,hmm];dsimp only
   rw[hfn];dsimp only
   rw[jE (.inl hk)];unfold back;rw[hk];rfl
  | some fn =>
   cases hr:(results fn fr.tmps).runT P w #[] with
   | mk r es' =>
   cases r with
   | ok v w2 =>
    refine go (c0.finish v) w2 (seen P fr.fn es') ?_ (uP _ _);rw[hu];unfold unwind;rw[hd,hmm];dsimp only
    rw[hfn];dsimp only
    rw[hr];dsimp only
    rw[jE (.inl hk)];unfold back;rw[hk];simp[GStep.after]
   | halt h w2 =>
    refine ended ?_;rw[hu];unfold unwind;rw[hd,hmm];dsimp only
    rw[hfn];dsimp only
    rw[hr]
    cases h <;> exact⟨_,_,_,rfl⟩
def Tk(P:Program)(L:FuncId->Bool)(K:Op->Bool):Prop:=∀ o,K o=true->bT P L o=true/\(∀ c,o≠.defer c)/\(∀ c b,o≠.select c b)/\∀ c,o=.call c->c.callee≠.builtin .recover
theorem ada(hT:Tk P L K){D:Nat->Prop}{fr:Frame}{cs:List Frame}{w:World}(hs:Self P L K true S D fr cs w)(hn:¬ dS P L true fr):fr.mode=.run/\∃ ops i l k o x,fr.todo=.inRegion ops (i::l)::k/\ops[i]? = some o/\Region.wanted o (yielded ops fr.tmps)=true/\o.op=.panic x/\fr.eval x=.nilIface:=by
 have hpl:=hs.sl.plain;obtain⟨T',htop,_,_⟩:=hs.sl.top;have hit:=htop.items;unfold dS at hn
 cases hm:fr.mode with
 | returning=>rw[hm] at hn;exact absurd (fun d ds b ts t c h=>by rw[hpl.1] at h;cases h) hn
 | panicking ch=>rw[hm] at hn;exact absurd (fun d ds b ts t c h=>by rw[hpl.1] at h;cases h) hn
 | run =>
  rw[hm] at hn;refine⟨rfl,?_⟩;apply qba;intro hno;refine hn fun ops i l k o h1 h2 h3=>?_
  have hK:K o.op=true:=by
   rw[h1] at hit;have:=(aH.1 hit).1;simp only[Jr,YF] at this;obtain⟨hlt,he⟩:=fT.1 h2;have:=this i hlt;rw[he] at this;rw[fE] at this;exact this.1
  obtain⟨t1,t2,t3,t4⟩:=hT _ hK;exact⟨t1,fun x hx he=>hno ⟨ops,i,l,k,o,x,h1,h2,h3,hx,he⟩,fun c hc=>absurd hc (t2 c),fun c b hc=>absurd hc (t3 c b),fun c hc hr=>absurd hr (t4 c hc)⟩
theorem X0(hT:Tk P L K){D:Nat->Prop}{fr:Frame}{cs:List Frame}{w:World}(hs:Self P L K true S D fr cs w)(hn:¬ dS P L true fr):∀ M fr' cs' w',runN P (M+1) (lone fr (cs++[c0]) w)=.next (lone fr' (cs'++[c0]) w')->XI P fr':=by
 obtain⟨hm,ops,i,l,k,o,x,h1,h2,h3,h4,h5⟩:=ada hT hs hn;have hpl:=hs.sl.plain;obtain⟨T',htop,_,_⟩:=hs.sl.top;intro M fr' cs' w' hM;obtain⟨h,w2,es,hr,hv⟩:=Ur (P:=P) h4 h5 w;have hA:stepG P true (G fr (cs++[c0])) w=stepG.apply P true fr (cs++[c0]) none (execOp fr.eval o) w:=by
  obtain⟨fn,tmps,todo,defers,mode,kind,ro⟩:=fr;have hro:=htop.ro;simp only at h1 h3 hm hro;subst h1 hm hro;simp[stepG,stepG.exec,stepG.oper,Frame.oper?,G,h3,h2]
 have e1:=vT htop.norm;rcases hv with hv|⟨v,rfl,hbad⟩
 .have:∃ o w' es,stepG P true (G fr (cs++[c0])) w=.ended o w' es:=by
   rw[hA];unfold stepG.apply;simp only[hr,if_true,e1,jI,if_false]
   cases h <;> first|exact hv.elim|exact⟨_,_,_,rfl⟩|skip
   rename_i u
   cases u <;> first|exact hv.elim|exact⟨_,_,_,rfl⟩
  obtain⟨o',w3,es3,he⟩:=this;simp only[runN,eB he] at hM
  cases hM
 .have hB:stepG P true (G fr (cs++[c0])) w=.go (G (fr.raise [{v,recovered:=false}]) (cs++[c0])) w2 (seen P fr.fn es):=by
   rw[hA];unfold stepG.apply;simp only[hr,if_true,e1,jI,if_false];show GStep.after _ _=_;simp[GStep.after,G]
  simp only[runN,jN hB] at hM;have hrm:(fr.raise [{v,recovered:=false}]).mode=.panicking [{v,recovered:=false}]/\(fr.raise [{v,recovered:=false}]).todo=fr.todo/\(fr.raise [{v,recovered:=false}]).fn=fr.fn:=by
   unfold Frame.raise;rw[hm];exact⟨rfl,rfl,rfl⟩
  have:=Aa hrm.1 ((qP _ _).2.trans hpl.1) (by
   have:=hpl.2.1;unfold Frame.catches at this ⊢;rw[hrm.2.1,hrm.2.2];exact this) hpl.2.2 M fr' cs' w' hM
  exact⟨v,_,this,hbad⟩
end
abbrev St:=Frame×List Frame×World
section
variable (P:Program)(L:FuncId->Bool)(K:Op->Bool)(S D0:Nat->Prop)(Φ:Frame->List Frame->World->Prop)
def UG(s:St):Prop:=(∃ D,Self P L K true S D s.1 s.2.1 s.2.2/\∀ a,D0 a->D a)/\¬ GT P L K S Φ s.1 s.2.1 s.2.2
def ZL(s:St):Prop:=s.2.1=[]->s.1.mode=.run\/s.1.defers≠[]
def Spec(x:{s // UG P L K S D0 Φ s})(r:(Nat->Question->Nat)×Nat×Option {s // UG P L K S D0 Φ s}):Prop :=
 match r.2.2 with
 | some y=>Kn P L K S x.1.1 x.1.2.1 (tp x.1.2.2 r.1 r.2.1) y.1.1 y.1.2.1 y.1.2.2
 | none=>¬ dS P L true x.1.1\/¬ ZL x.1\/(dS P L true x.1.1/\ZL x.1/\oF (stepG P true (G x.1.1 (x.1.2.1++[c0])) (tp x.1.2.2 r.1 r.2.1)))
end
section
variable {P:Program}{L:FuncId->Bool}{K:Op->Bool}{S D0:Nat->Prop}{Φ:Frame->List Frame->World->Prop}
theorem Jd(hK:vB P L K)(hL:∀ f,L f=true->fK P f)(x:{s // UG P L K S D0 Φ s}):∃ r,Spec P L K S D0 Φ x r:=by
 obtain⟨⟨fr,cs,w⟩,⟨D,hs,hD⟩,hno⟩:=x;simp only at hs hno;by_cases hn:dS P L true fr
 .by_cases hf:ZL (fr,cs,w)
  .have hst:¬ ∀ τ d,∃ fr' cs' w',Kn P L K S fr cs (tp w τ d) fr' cs' w'/\GT P L K S Φ fr' cs' w':=fun h=>hno (GT.step' hn hf h)
   obtain⟨τ,hst⟩:=qbV.1 hst;obtain⟨d,hst⟩:=qbV.1 hst;by_cases he:oF (stepG P true (G fr (cs++[c0])) (tp w τ d))
   .exact⟨(τ,d,none),.inr (.inr ⟨hn,hf,he⟩)⟩
   .obtain⟨fr',cs',w',D',h1,h2,h3⟩:=KP hK hL (hs.tp τ d) hn hf he;exact⟨(τ,d,some ⟨(fr',cs',w'),⟨D',h2,fun a h=>h3 a (hD a h)⟩,fun hg=>hst ⟨fr',cs',w',h1,hg⟩⟩),h1⟩
  .exact⟨(w.tape,0,none),.inr (.inl hf)⟩
 .exact⟨(w.tape,0,none),.inl hn⟩
end
theorem Bo{P:Program}{L:FuncId->Bool}{K:Op->Bool}{S:Nat->Prop}{Φ:Frame->List Frame->World->Prop}(hK:vB P L K)(hL:∀ f,L f=true->fK P f)(hT:Tk P L K){D:Nat->Prop}{QT:Frame}{cs0:List Frame}{w:World}(hs:Self P L K true S D QT cs0 w)(hC:∀ τ d,∃ fr cs w',Steps P (lone QT (cs0++[c0]) (tp w τ d)) (lone fr (cs++[c0]) w')/\Φ fr cs w'/\¬ XI P fr)(hΦ:∀ fr cs w τ d,Φ fr cs w->Φ fr cs (tp w τ d)):GT P L K S (fun fr cs w=>Φ fr cs w/\∃ D',Self P L K true S D' fr cs w/\∀ a,D a->D' a) QT cs0 w:=by
 apply qba;intro hno
 let Φ':Frame->List Frame->World->Prop:=fun fr cs w=>Φ fr cs w/\∃ D',Self P L K true S D' fr cs w/\∀ a,D a->D' a
 obtain⟨g,hg⟩:=qbU.1 (fun x:{s // UG P L K S D Φ' s}=>Jd hK hL x)
 let x0:{s // UG P L K S D Φ' s}:=⟨(QT,cs0,w),⟨D,hs,fun _ h=>h⟩,hno⟩
 let p:Nat->Option {s // UG P L K S D Φ' s}:=fun k=>Nat.rec (some x0) (fun _ o=>o.bind fun x=>(g x).2.2) k
 have hp0:p 0=some x0:=rfl;have hp1:∀ k,p (k+1)=(p k).bind fun x=>(g x).2.2:=fun k=>rfl
 let n:Nat->Nat:=fun k=>((p k).bind fun x=>(g x).2.2.map fun y=>y.1.2.2.drawn-(g x).2.1).getD 0
 let T:Nat->Nat->Question->Nat:=fun k i=>((p k).map fun x=>(g x).1 ((g x).2.1+i)).getD (w.tape i)
 classical
 let E:Nat->Question->Nat:=if h:∃ k x,p k=some x/\(g x).2.2=none then fun y=>T h.choose (y-Dn n h.choose) else w.tape
 obtain⟨τ,agm,agy⟩:=glue n T E;have hA:∀ k x,p k=some x->runN P k (lone QT (cs0++[c0]) (tp w τ 0))=.next (lone x.1.1 (x.1.2.1++[c0]) (tp x.1.2.2 τ (Dn n k))):=by
  intro k
  induction k with
  | zero =>
   intro x hk;rw[hp0] at hk
   cases hk
   rfl
  | succ k ih =>
   intro y hk;rw[hp1] at hk
   cases hpk:p k with
   | none=>rw[hpk] at hk;cases hk
   | some x =>
    rw[hpk] at hk;simp only[Option.bind_some] at hk;have hsp:=hg x;unfold Spec at hsp;rw[hk] at hsp;have hnk:n k=y.1.2.2.drawn-(g x).2.1:=by simp only[n,hpk,Option.bind_some,hk,MK,Option.getD_some]
    have hTk:∀ i,T k i=(g x).1 ((g x).2.1+i):=fun i=>by simp only[T,hpk,MK,Option.getD_some]
    obtain⟨Dx,hsx,_⟩:=x.2.1;obtain⟨es,hst,_⟩:=hsp.eq hsx.sl.itB [c0] true τ (Dn n k) (fun i hi=>by
     have h1:=agm k i (by rw[hnk];have:(g x).2.1+i<y.1.2.2.drawn:=hi;omega);rw[hTk] at h1;exact h1)
    have hDk:Dn n (k+1)=Dn n k+(y.1.2.2.drawn-(g x).2.1):=by show Dn n k+n k=_;rw[hnk]
    rw[runN_add,ih x hpk,hDk];simp only[runN];have:=jN hst;rw[show tp (tp x.1.2.2 (g x).1 (g x).2.1) τ (Dn n k)=tp x.1.2.2 τ (Dn n k) from rfl] at this;rw[this];rfl
 obtain⟨fr,cs,w',⟨N,hN⟩,hφ,hnb⟩:=hC τ 0
 cases hpN:p N with
 | some x =>
  have h1:=hA N x hpN;rw[hN] at h1;simp only[Stepped.next.injEq] at h1;obtain⟨e1,e2,e3⟩:=lS h1;have e2:=qb6 e2;refine x.2.2 (.stop fun jH d'=>?_);have:=hΦ _ _ _ jH d' hφ;rw[e1,e2,e3] at this;obtain⟨Dx,hsx,hsup⟩:=x.2.1;exact⟨this,Dx,hsx.tp jH d',hsup⟩
 | none =>
  have hlast:∃ k x,k<N/\p k=some x/\(g x).2.2=none:=by
   have:∀ M,p M=none->∃ k x,k<M/\p k=some x/\(g x).2.2=none:=by
    intro M
    induction M with
    | zero=>intro h;rw[hp0] at h;cases h
    | succ M ih =>
     intro h
     cases hpM:p M with
     | none=>obtain⟨k,x,h1,h2⟩:=ih hpM;exact⟨k,x,by omega,h2⟩
     | some x=>rw[hp1,hpM] at h;exact⟨M,x,by omega,hpM,h⟩
   exact this N hpN
  obtain⟨k,x,hkN,hpk,hgx⟩:=hlast;have hk:=hA k x hpk;obtain⟨M,rfl⟩:∃ M,N=k+(M+1):=⟨N-k - 1,by omega⟩
  rw[runN_add,hk] at hN;have hN':runN P (M+1) (lone x.1.1 (x.1.2.1++[c0]) (tp x.1.2.2 τ (Dn n k)))=.next (lone fr (cs++[c0]) w'):=hN
  obtain⟨D',hsx,_⟩:=x.2.1;have hsp:=hg x;unfold Spec at hsp;rw[hgx] at hsp;rcases hsp with hno|hnf|⟨hok,hbf,hend⟩
  .exact hnb (X0 hT (hsx.tp τ (Dn n k)) hno M fr cs w' hN')
  .unfold ZL at hnf;rw[Classical.not_imp] at hnf;obtain⟨h1,h2⟩:=hnf;have h3:=not_or.1 h2;have hpl:=hsx.sl.plain;have hkn:x.1.1.kind=.normal:=by
    have:=hsx.sl;rw[h1] at this
    cases this with
    | bot _ hk _ _=>exact hk
   rw[h1] at hN';exact Yh h3.1 hpl.1 hpl.2.1 hkn M fr cs w' hN'
  .
   have agb:∀ k' x',p k'=some x'->(g x').2.2=none->k'=k:=by
    have after:∀ a xa,p a=some xa->(g xa).2.2=none->∀ j,a<j->p j=none:=by
     intro a xa ha hga j hj
     induction j with
     | zero=>omega
     | succ j ih =>
      rw[hp1];rcases qb7 a j with h|h
      .rw[ih h];rfl
      .have:j=a:=by omega
       subst this;rw[ha];exact hga
    intro k' x' h1 h2;rcases qcx k' k with h|h|h
    .rw[after k' x' h1 h2 k h] at hpk;cases hpk
    .exact h
    .rw[after k x hpk hgx k' h] at h1;cases h1
   have hn0:∀ j,k<=j->n j=0:=by
    intro j hj;rcases qb7 k j with h|h
    .have:p j=none:=by
      have:∀ m,p (k+1+m)=none:=by
       intro m
       induction m with
       | zero=>rw[R4,hp1,hpk];exact hgx
       | succ m ih=>rw[<-Zu,hp1,ih];rfl
      have h2:=this (j-(k+1))
      rwa [show k+1+(j-(k+1))=j by omega] at h2
     simp only[n,this,Option.bind_none,Option.getD_none]
    .have:j=k:=by omega
     subst this;simp only[n,hpk,Option.bind_some,hgx,Option.map_none,Option.getD_none]
   have ahw:∀ j,Dn n j<=Dn n k:=by
    intro j;rcases qb7 j k with h|h
    .exact Jy n (by omega)
    .induction j with
     | zero =>
          have:k=0:=by omega
          subst this;exact aY _
     | succ j ih =>
      rcases qb7 j k with h2|h2
      .exact Zj (by rw[show j+1=k by omega])
      .show Dn n j+n j<=_;rw[hn0 j h2];exact ih h2
   have Ja:∀ i,τ (Dn n k+i)=(g x).1 ((g x).2.1+i):=by
    intro i;rw[agy _ (fun j=>tT (ahw j) (Nat.le_add_right _ _))];have hex:∃ k x,p k=some x/\(g x).2.2=none:=⟨k,x,hpk,hgx⟩
    have hch:hex.choose=k:=by
     obtain⟨x',h1,h2⟩:=hex.choose_spec;exact agb _ x' h1 h2
    show(if h:∃ k x,p k=some x/\(g x).2.2=none then fun y=>T h.choose (y-Dn n h.choose) else w.tape) _=_;rw[dif_pos hex,hch,qbu];simp only[T,hpk,MK,Option.getD_some]
   by_cases he2:oF (stepG P true (G x.1.1 (x.1.2.1++[c0])) (tp x.1.2.2 τ (Dn n k)))
   .have:∃ o w2 es,stepG P true (G x.1.1 (x.1.2.1++[c0])) (tp x.1.2.2 τ (Dn n k))=.ended o w2 es:=by
     cases h:stepG P true (G x.1.1 (x.1.2.1++[c0])) (tp x.1.2.2 τ (Dn n k)) <;> rw[h] at he2 <;> first|exact he2.elim|exact⟨_,_,_,rfl⟩
    obtain⟨o,w2,es,h⟩:=this;simp only[runN,eB h] at hN'
    cases hN'
   .obtain⟨fr',cs',w2,D2,h1,_,_⟩:=KP hK hL (hsx.tp τ (Dn n k)) hok hbf he2;obtain⟨es,h2,_⟩:=h1.eq hsx.sl.itB [c0] true (g x).1 (g x).2.1 (fun i _=>(Ja i).symm);rw[show tp (tp x.1.2.2 τ (Dn n k)) (g x).1 (g x).2.1=tp x.1.2.2 (g x).1 (g x).2.1 from rfl] at h2;rw[h2] at hend;exact hend
end Sr
end
section
open Go.Conc
open Go.ConcN (sumTo upd sumTo_upd upd_ne upd_same)
namespace Cc
def Ai:Loc->Prop:=fun _=>False
theorem uo{B n:Nat}{e:Event}(h:Low n e)(hB:n<=B):EvL Ai B e:=by
 obtain⟨loc,wr,sy⟩:=e;rcases h with⟨a,h1,h2,h3⟩|⟨r,h1,h2,h3⟩|h1
 .simp only at h1 h3;subst h1 h3;exact⟨fun x _ hs=>hs.elim,by simp,by simp,show a.block<B by omega⟩
 .simp only at h1 h3;subst h1 h3;refine⟨fun x _ hs=>hs.elim,by simp,by simp,?_⟩
  cases sy
  .show r<B;omega
  .show r<B;omega
 .simp only at h1;subst h1;refine⟨fun x _ hs=>hs.elim,by simp,by simp,?_⟩
  cases wr <;> cases sy <;> trivial
theorem RS{P:Program}{Q:Frame->World->Prop}{fr:Frame}{cs:List Frame}{w:World}(ht:Tree P Q fr cs w):∀ (base:List Frame)(M:Nat)(d0:Nat)(gs:Array Goroutine)(sl:Option (Nat×Nat))(t:Trace)(q:Nat->Nat)(B:Nat),
  sumTo gs.size q=M->gs[0]? = some (G fr (cs++base))->Leavers P t gs q->Past Ai B t->w.heap.size<=B ->
  ∃ (N:Nat)(gs':Array Goroutine)(fr':Frame)(w':World)(sl':Option (Nat×Nat))(t':Trace)(q':Nat->Nat)(B':Nat),
   runNT P N (crowd gs (w.at d0) sl) t=(.next (crowd gs' w' sl'),t')/\gs'.size=gs.size/\gs'[0]? = some (G fr' base)/\OkR P fr'/\(∀ d,Q fr' (w'.at d))/\Leavers P t' gs' q'/\Past Ai B' t'/\w'.heap.size<=B':=by
 induction ht with
 | stop fr w h hq =>
  intro base M d0 gs sl t q B hM h0 hL hP hB;exact⟨0,gs,fr,w.at d0,sl,t,q,B,rfl,rfl,by simpa using h0,h,fun d=>hq d,hL,hP,hB⟩
 | step fr cs w n fr' cs' w' es h ht ih =>
  intro base M
  induction M using Nat.strongRecOn with
  | _ M Qw =>
   intro d0 gs sl t q B hM h0 hL hP hB;have hrun:(G fr (cs++base)).status=.running:=rfl;have hpos:0<gs.size:=(fT.1 h0).1;have haw:∀ g∈gs,awake g:=by
    intro g hg;obtain⟨i,hi,rfl⟩:=qcj.1 hg;rcases UZ i with rfl|hp
    .have:gs[0]=G fr (cs++base):=by simpa[mJ hi] using h0
     rw[this];exact awake_of (.inl hrun)
    .exact awake_of ((hL.old i _ hp (mJ hi)).status.elim .inl fun x=>.inr (.inr x))
   obtain⟨i,g,d,sl',hi,hg,hst⟩:=crowd_pick (P:=P) (w:=w.at d0) (sl:=sl) haw ⟨0,_,h0,hrun⟩;rcases UZ i with rfl|hp
   .obtain rfl:g=G fr (cs++base):=by rw[h0] at hi;exact(pQ hi).symm
    have hd:=h d;have hgo:stepG P true (G fr (cs++base)) (w.at d)=.go (G (fr' d) (cs' d++base)) (w' d) (es d):=by
     have:=hd.eq base (w.at d).tape (w.at d).drawn (fun i _=>rfl);have e1:tp (w' d) (w.at d).tape ((w.at d).drawn+n d)=w' d:=by rw[<-hd.drawn,<-hd.tape];rfl
     rw[e1] at this;exact this
    have hrunT:=runT_crowd_go (P:=P) (sl:=sl') (i:=0) hi (show stepG P (0==0) (G fr (cs++base)) ((w.at d0).at d)=_ from hgo);have hsz:((gs.map (woken P (G fr (cs++base)) (G (fr' d) (cs' d++base)) (w' d))).setIfInBounds 0 (G (fr' d) (cs' d++base))).size=gs.size:=by simp
    have hP':Past Ai (max B (w' d).heap.size) (t++MemOp.ofEvents 0 (G fr (cs++base)).frame.fn (G fr (cs++base)).frame.place (es d)) :=(hP.mono (Z5 _ _)).own fun e he=>uo (hd.low e he) (J9 _ _)
    obtain⟨N,gs',adG,w'',sl'',t',q',B',hr,hs',h0',hok,hQ,hL',hP'',hB'⟩:=ih d base (sumTo gs.size q) (w' d).drawn ((gs.map (woken P (G fr (cs++base)) (G (fr' d) (cs' d++base)) (w' d))).setIfInBounds 0 (G (fr' d) (cs' d++base))) sl' _ q _ (by rw[hsz]) (by simp[hpos]) (hL.own hpos _ _ (es d)) hP' (J9 _ _);refine⟨N+1,gs',adG,w'',sl'',t',q',B',?_,hs'.trans hsz,h0',hok,hQ,hL',hP'',hB'⟩;simp only[runNT,hst,hrunT];exact hr
   .have hq:=hL.old i g hp hi;have hi0:(i==0)=false:=by simp;omega
    have hlt:i<gs.size:=(fT.1 hi).1
    cases hqi:q i with
    | zero=>rw[hqi] at hq;rw[hq.1] at hg;cases hg
    | succ k =>
     rw[hqi] at hq;rcases hq with⟨hf,_⟩|⟨_,g',es',hm,hstp,hq'⟩
     .rw[hf] at hg;cases hg
     have hrunT:=runT_crowd_go (P:=P) (sl:=sl') (i:=i) hi (by rw[hi0];exact hstp ((w.at d0).at d));have hsz:((gs.map (woken P g g' ((w.at d0).at d))).setIfInBounds i g').size=gs.size:=by simp
     have hsum:sumTo gs.size (upd q i k)+(k+1)=sumTo gs.size q+k:=by
      have:=sumTo_upd q k id hlt;simpa[hqi] using this
     obtain⟨N,gs',adG,w'',sl'',t',q',B',hr,hs',h0',hok,hQ,hL',hP'',hB'⟩:=Qw (sumTo gs.size (upd q i k)) (by omega) d ((gs.map (woken P g g' ((w.at d0).at d))).setIfInBounds i g') sl' (t++MemOp.ofEvents i g.frame.fn g.frame.place es') (upd q i k) B (by rw[hsz])
      (by rw[ow (by omega),JO,h0];simp[woken_run hrun])
      ⟨fun j x hj hx=>by
       by_cases hji:i=j
       .subst hji;rw[Sn (by simpa using hlt)] at hx;obtain rfl:=pQ hx;rw[upd_same,Deaf_own];exact hq'
       .rw[ow hji,JO] at hx;obtain⟨y,hy,rfl⟩:=zA.1 hx;have hqj:=hL.old j y hj hy;rw[woken_quitsD hqj,upd_ne q k (Ao hji),Deaf_other t hji _ (fun op hop=>by obtain⟨e,_,rfl⟩:=Go.Conc.mem_ofEvents hop;rfl)];exact hqj,
      fun j hj=>by
       rw[Deaf_other t (g':=i) (by simp at hj;omega) _ (fun op hop=>by obtain⟨e,_,rfl⟩:=Go.Conc.mem_ofEvents hop;rfl)];exact hL.above j (by simpa using hj)⟩
      (hP.mute (by omega) hm) hB
     refine⟨N+1,gs',adG,w'',sl'',t',q',B',?_,hs'.trans hsz,h0',hok,hQ,hL',hP'',hB'⟩;simp only[runNT,hst,hrunT];exact hr
end Cc
end
section
open Go.Conc
namespace Cc
theorem lI(t:Trace)(y:MemOp):(t++#[y])[t.size]? = some y:=by simp
theorem g?_of{t:Trace}{i:Nat}{op:MemOp}(h:t[i]? = some op):t.g? i=some op.g:=by unfold Trace.g?;rw[h];rfl
theorem y9{t u:Trace}{i:Nat}(h:t.heard i):(t++u).heard i:=by
 obtain⟨g,hg,hd⟩:=h;have hi:i<t.size:=by
  unfold Trace.g? at hg;obtain⟨z,hz,_⟩:=zA.1 hg;exact lt_size_of_getElem? hz
 exact⟨g,by simpa[Trace.g?,getElem?_append_old hi] using hg,by rw[deaf_old (qb8 hi)];exact hd⟩
theorem heard_new{t:Trace}{y:MemOp}(h:Deaf t y.g=0):(t++#[y]).heard t.size:=by
 have hy:(t++#[y])[t.size]? = some y:=by simp
 exact⟨y.g,by simp[Trace.g?,hy],by rw[deaf_old (aY _)];exact h⟩
section
variable {Mine:Loc->Prop}{k B:Nat}{t u:Trace}
theorem wU(h:∀ i op,t[i]? = some op->op.g≠0->op.g≠k->t.counts i->∃ j,t.g? j=some 0/\HappensBefore t i j)(hu:∀ op∈u,op.g=0\/op.g=k\/op.act.touch? = none):∀ i op,(t++u)[i]? = some op->op.g≠0->op.g≠k->(t++u).counts i->∃ j,(t++u).g? j=some 0/\HappensBefore (t++u) i j:=by
 intro i op hi h0 hk hc;rcases getElem?_append_cases hi with⟨hlt,hi'⟩|⟨_,hm⟩
 .obtain⟨j,hj,hb⟩:=h i op hi' h0 hk ((counts_old hlt).1 hc);have hjl:j<t.size:=by
   unfold Trace.g? at hj;obtain⟨z,hz,_⟩:=zA.1 hj;exact lt_size_of_getElem? hz
  exact⟨j,by simpa[Trace.g?,getElem?_append_old hjl] using hj,hb_app u hb⟩
 .obtain⟨x,hx,_⟩:=hc;obtain⟨op',hop,hox⟩:=touch_of hx;rw[hi] at hop
  cases hop
  rcases hu op hm with h|h|h
  .exact absurd h h0
  .exact absurd h hk
  .rw[h] at hox;cases hox
theorem rR{op:MemOp}{i:Nat}(hi:t[i]? = some op):(t++u)[i]? = some op:=by rw[getElem?_append_old (lt_size_of_getElem? hi)];exact hi
structure Shut(k c pc:Nat)(t:Trace):Prop where
 close:∃ op,t[pc]? = some op/\op.g=k/\op.act=.close c
 heard:t.heard pc
 last:∀ i op,t[i]? = some op->op.g=k->op.act.touch?≠none->i<=pc
theorem Shut.app{c pc:Nat}(h:Shut k c pc t)(hu:∀ op∈u,op.g=k->op.act.touch? = none):Shut k c pc (t++u):=by
 obtain⟨op,h1,h2,h3⟩:=h.close;refine⟨⟨op,rR h1,h2,h3⟩,y9 h.heard,fun i op hi hg ht=>?_⟩;rcases getElem?_append_cases hi with⟨_,hi'⟩|⟨_,hm⟩
 .exact h.last i op hi' hg ht
 .exact absurd (hu op hm hg) ht
end
end Cc
end
section
open Go.Conc
open Go.ConcN (sumTo upd sumTo_upd upd_ne upd_same)
namespace Cc
theorem Uv{n:Nat}{e:Event}{b:Touch}(h:Low n e)(hb:(MemAct.ofEvent e).touch? = some b):(b.loc=e.loc/\b.write=e.write)/\((∃ a,e.loc=.cell a/\a.block<n)\/(∃ r,e.loc=.obj r)/\e.write=false):=by
 obtain⟨loc,wr,sy⟩:=e;rcases h with⟨a,h1,h2,h3⟩|⟨r,h1,h2,h3⟩|h1
 .simp only at h1 h3;subst h1 h3
  cases wr <;> simp[MemAct.ofEvent,MemAct.touch?] at hb <;> subst hb <;> exact⟨⟨rfl,rfl⟩,.inl ⟨a,rfl,h2⟩⟩
 .simp only at h1 h3;subst h1 h3
  cases sy <;> simp[MemAct.ofEvent,MemAct.touch?] at hb <;> subst hb <;> exact⟨⟨rfl,rfl⟩,.inr ⟨⟨r,rfl⟩,rfl⟩⟩
 .simp only at h1;subst h1
  cases wr <;> cases sy <;> simp[MemAct.ofEvent,MemAct.touch?] at hb
theorem abB{n:Nat}{e:Event}(h:Low n e):(MemAct.ofEvent e).low n:=(uo h (aY _)).2.2.2
section
variable {k Lw B:Nat}{t:Trace}
def Comm(k c:Nat)(op:MemOp):Prop:=(op.g=0\/op.g=k)/\((∃ n,op.act=.send c n)\/(∃ n,op.act=.sendDone c n)\/(∃ n m,op.act=.recv c n m)\/(∃ n,op.act=.recvDone c n)\/op.act=.close c)
theorem Comm.touch{c:Nat}{op:MemOp}(h:Comm k c op):op.act.touch? = none:=by
 rcases h.2 with⟨n,h⟩|⟨n,h⟩|⟨n,m,h⟩|⟨n,h⟩|h <;> rw[h] <;> rfl
theorem Comm.low{c:Nat}{op:MemOp}(h:Comm k c op)(hc:c<B):op.act.low B:=by
 rcases h.2 with⟨n,h⟩|⟨n,h⟩|⟨n,m,h⟩|⟨n,h⟩|h <;> rw[h] <;> exact hc
theorem Comm.deaf{c:Nat}{op:MemOp}(h:Comm k c op)(g d:Nat):deafStep g d op=d:=by
 rcases h.2 with⟨n,h⟩|⟨n,h⟩|⟨n,m,h⟩|⟨n,h⟩|h <;> simp[deafStep,h]
theorem DZ{c:Nat}:∀ {u:List MemOp}{t:Trace},(∀ op∈u,Comm k c op)->∀ g,Deaf (t++u.toArray) g=Deaf t g
 | [],t,_,g=>by simp
 | x::u,t,hu,g=>by
  have e:t++(x::u).toArray=t++#[x]++u.toArray:=by simp
  rw[e,DZ (fun op hop=>hu op (by simp[hop])),Deaf_push,(hu x (by simp)).deaf]
structure jV(P:Program)(t:Trace)(gs:Array Goroutine)(k:Nat)(q:Nat->Nat):Prop where
 pos:0<k
 size:gs.size=k+1
 old:∀ i g,0<i->i<k->gs[i]? = some g->QuitsD P (q i) (Deaf t i) g
 above:∀ j,k<j->Deaf t j=0
theorem jV.keep{P:Program}{t t':Trace}{gs gs':Array Goroutine}{q:Nat->Nat}(h:jV P t gs k q)(hs:gs'.size=gs.size)(hg:∀ i,0<i->i<k->gs'[i]? = gs[i]?)(hd:∀ i,i≠0->i≠k->Deaf t' i=Deaf t i):jV P t' gs' k q :=⟨h.pos,hs.trans h.size,fun i g h0 hk hi=>by rw[hd i (by omega) (by omega)];exact h.old i g h0 hk (by rw[<-hg i h0 hk];exact hi),fun j hj=>by rw[hd j (by have:=h.pos;omega) (by omega)];exact h.above j hj⟩
theorem jV.own{P:Program}{gs:Array Goroutine}{q:Nat->Nat}(h:jV P t gs k q){i:Nat}(hi:i=0\/i=k)(x y z:Goroutine)(w':World)(fn:FuncId)(pos:String)(es:Array Event):jV P (t++MemOp.ofEvents i fn pos es) ((gs.map (woken P x y w')).setIfInBounds i z) k q:=by
 refine h.keep (by simp) (fun j h0 hk=>?_) fun j h0 hk=>Deaf_other t (g':=i) (by omega) _ (fun op hop=>by obtain⟨e,_,rfl⟩:=Go.Conc.mem_ofEvents hop;rfl)
 rw[ow (by omega),JO]
 cases hj:gs[j]? with
 | none=>rfl
 | some y=>simp[woken_quitsD (h.old j y h0 hk hj)]
theorem jV.slip{P:Program}{gs:Array Goroutine}{q:Nat->Nat}(h:jV P t gs k q){i m:Nat}(h0:0<i)(hk:i<k){x y:Goroutine}{w':World}{fn:FuncId}{pos:String}{es:Array Event}(hq:QuitsD P m (deafBehind (Deaf t i) es) y):jV P (t++MemOp.ofEvents i fn pos es) ((gs.map (woken P x y w')).setIfInBounds i y) k (upd q i m):=by
 have hlt:i<gs.size:=by rw[h.size];omega
 refine⟨h.pos,by simp[h.size],fun j g hj0 hjk hj=>?_,fun j hj=>?_⟩
 .by_cases hji:i=j
  .subst hji;rw[Sn (by simpa using hlt)] at hj;obtain rfl:=pQ hj;rw[upd_same,Deaf_own];exact hq
  .rw[ow hji,JO] at hj;obtain⟨y',hy,rfl⟩:=zA.1 hj;have hqj:=h.old j y' hj0 hjk hy;rw[woken_quitsD hqj,upd_ne q m (Ao hji),Deaf_other t hji _ (fun op hop=>by obtain⟨e,_,rfl⟩:=Go.Conc.mem_ofEvents hop;rfl)];exact hqj
 .rw[Deaf_other t (g':=i) (by omega) _ (fun op hop=>by obtain⟨e,_,rfl⟩:=Go.Conc.mem_ofEvents hop;rfl)];exact h.above j hj
theorem jV.awake{P:Program}{gs:Array Goroutine}{q:Nat->Nat}(h:jV P t gs k q){a b:Goroutine}(ha:gs[0]? = some a)(hb:gs[k]? = some b)(sa:a.status=.running\/a.status=.blocked\/a.status=.finished)(sb:b.status=.running\/b.status=.blocked\/b.status=.finished):∀ g∈gs,awake g:=by
 intro g hg;obtain⟨i,hi,rfl⟩:=qcj.1 hg;rcases UZ i with rfl|hp
 .have:gs[0]=a:=by simpa[mJ hi] using ha
  rw[this];exact awake_of sa
 .by_cases hk:i=k
  .subst hk;have:gs[i]=b:=by simpa[mJ hi] using hb
   rw[this];exact awake_of sb
  .exact awake_of ((h.old i _ hp (by have:=h.size;omega) (mJ hi)).status.elim .inl fun x=>.inr (.inr x))
theorem jV.offers{P:Program}{gs:Array Goroutine}{q:Nat->Nat}(h:jV P t gs k q){i:Nat}{g:Goroutine}(h0:0<i)(hk:i<k)(hi:gs[i]? = some g)(c:Nat)(s:Bool):offersAt g c s=[] :=offersAt_of_not_blocked (by rcases (h.old i g h0 hk hi).status with x|x <;> rw[x] <;> simp) c s
theorem jV.partners_nil{P:Program}{gs:Array Goroutine}{q:Nat->Nat}(h:jV P t gs k q){i:Nat}{a b:Goroutine}{c:Nat}{s:Bool}(ha:gs[0]? = some a)(hb:gs[k]? = some b)(oa:i≠0->offersAt a c s=[])(ob:i≠k->offersAt b c s=[]):partners (gs.setIfInBounds i ph) c s=[]:=by
 refine Go.Conc.partners_nil fun j g hj=>?_
 rcases getElem?_stand gs i j g hj with⟨_,rfl⟩|⟨hne,hj'⟩
 .exact offersAt_ph c s
 .rcases UZ j with rfl|hp
  .rw[ha] at hj';cases hj';exact oa (Ao hne)
  .by_cases hk:j=k
   .subst hk;rw[hb] at hj';cases hj';exact ob (Ao hne)
   .exact h.offers hp (by have:=(fT.1 hj').1;have:=h.size;omega) hj' c s
theorem jV.partners_one{P:Program}{gs:Array Goroutine}{q:Nat->Nat}(h:jV P t gs k q){i j:Nat}(hij:(i=0/\j=k)\/(i=k/\j=0)){x:Goroutine}{c:Nat}{s:Bool}(hx:gs[j]? = some x)(ox:offersAt x c s=[0]):partners (gs.setIfInBounds i ph) c s=[(j,0)]:=by
 have hne:j≠i:=by have:=h.pos;omega
 rw[Go.Conc.partners_one (stand_get hne hx) fun m y hm hy=>?_,ox]
 .rfl
 .rcases getElem?_stand gs i m y hy with⟨_,rfl⟩|⟨hne',hy'⟩
  .exact offersAt_ph c s
  .exact h.offers (by omega) (by have:=(fT.1 hy').1;have:=h.size;omega) hy' c s
end
section
variable (P:Program)(c Lw:Nat)(S:World->Prop)
end
section
variable {P:Program}{c Lw:Nat}{S:World->Prop}{z:Value}{Fin:Goroutine->World->Prop}
end
end Cc
end
section
open Go.Conc
namespace Sr
section
variable {P:Program}{gs:Array Goroutine}{w ω:World}{sl:Option (Nat×Nat)}{i j k:Nat}{g ξ gj:Goroutine}{es:Array Event}{c cap s r:Nat}{buf:Array Value}{tm closed:Bool}{v z zj:Value}
 {blocking:Bool} {shape shj:CommShape} {cs cases:Array CommCase}
theorem Eb(hi:gs[i]? = some g)(h:stepG P (i==0) g w=.comm ξ cases blocking shape ω es)(hk:cases[k]? = some (scase c v z))(ho:∀ (m:Nat)(c':CommCase),m≠k->cases[m]? = some c'->NoWays ω (gs.setIfInBounds i ph) c')(hc:ω.heap[c]? = some (.chan cap buf false s r tm))(hij:j≠i)(hj:gs[j]? = some (parked gj #[rcase c zj] shj))(hp:partners (gs.setIfInBounds i ph) c false=[(j,0)]):runT P (crowd gs w sl) i=(.next (crowd ((gs.setIfInBounds j (gj.finishComm P #[rcase c zj] shj 0 v true)).setIfInBounds i (ξ.finishComm P cases shape k au false)) (ω.setChan c cap buf false (s+1) (r+1) tm) sl),
   MemOp.ofEvents i g.frame.fn g.frame.place es++#[{g:=i,fn:=ξ.frame.fn,pos:=ξ.frame.place,act:=.send c s},{g:=j,fn:=gj.frame.fn,pos:=gj.frame.place,act:=.recv c r cap},
    {g:=i,fn:=ξ.frame.fn,pos:=ξ.frame.place,act:=.sendDone c s},{g:=j,fn:=gj.frame.fn,pos:=gj.frame.place,act:=.recvDone c r}]):=by
 have hw:ways ω (gs.setIfInBounds i ph) (scase c v z)=[.partner j 0]:=by simp[ways,scase,hc,hp]
 have hj':=stand_get (i:=i) hij hj;have hfp:=finishPartner_at P (gs.setIfInBounds i ph) hj' (cs:=#[rcase c zj]) (sh:=shj) rfl 0 v;have hgd:(gs.setIfInBounds i ph).getD j default=parked gj #[rcase c zj] shj:=by rw[Az,hj'];rfl
 rw[runT_crowd_comm hi h];unfold communicate;simp only[ready_one hk (by rw[hw];simp) ho,hw];rw[if_neg]
 .simp[choose,Sem.run,Question.forced,bind,Sem.bind,pure,scase,crowd,hc,hfp,hgd,set_stand2,finishComm_parked,rcase,parked,World.setChan];rfl
 .rw[qcg];exact any_ill (made_of_one hk (made_send v z hc) ho)
theorem CF(hi:gs[i]? = some g)(h:stepG P (i==0) g w=.comm ξ #[rcase c z] blocking shape ω es)(hc:ω.heap[c]? = some (.chan cap #[] closed s r tm))(hij:j≠i)(hj:gs[j]? = some (parked gj cs shj))(hk:cs[k]? = some (scase c v zj))(hp:partners (gs.setIfInBounds i ph) c true=[(j,k)]):runT P (crowd gs w sl) i=(.next (crowd ((gs.setIfInBounds j (gj.finishComm P cs shj k au false)).setIfInBounds i (ξ.finishComm P #[rcase c z] shape 0 v true)) (ω.setChan c cap #[] closed (s+1) (r+1) tm) sl),
   MemOp.ofEvents i g.frame.fn g.frame.place es++#[{g:=j,fn:=gj.frame.fn,pos:=gj.frame.place,act:=.send c s},{g:=i,fn:=ξ.frame.fn,pos:=ξ.frame.place,act:=.recv c r cap},
    {g:=j,fn:=gj.frame.fn,pos:=gj.frame.place,act:=.sendDone c s},{g:=i,fn:=ξ.frame.fn,pos:=ξ.frame.place,act:=.recvDone c r}]):=by
 rw[runT_crowd_comm hi h];have hj':=stand_get (i:=i) hij hj;have hfp:=finishPartner_at P (gs.setIfInBounds i ph) hj' (cs:=cs) (sh:=shj) rfl k au;have hgd:(gs.setIfInBounds i ph).getD j default=parked gj cs shj:=by rw[Az,hj'];rfl
 have hov:offeredValue (gs.setIfInBounds i ph) j k=v:=by simp[offeredValue,hj',parked,hk,scase]
 simp[communicate,ways,rcase,hc,hp,choose,Sem.run,Question.forced,bind,Sem.bind,pure,World.setChan,crowd,hfp,hgd,hov,set_stand2,finishComm_parked,parked,hk,scase];rfl
end
section
variable {g:Goroutine}{w:World}{cs:Array CommCase}{sh:CommShape}{c k:Nat}{v z:Value}
theorem Kq(hk:cs[k]? = some (scase c v z))(hu:∀ (m:Nat)(cc:CommCase),m≠k->cs[m]? = some cc->cc.chan≠.chan (some c)):offersAt (parked g cs sh) c true=[k]:=by
 simp only[offersAt,parked];have hz:∀ m:Nat,cs.zipIdx.toList[m]? = (cs[m]?).map fun x=>(x,m):=by intro m;simp
 have:=filter_map_one (id:CommCase×Nat->CommCase×Nat) (fun (x:CommCase×Nat)=>x.1.send.isSome==true&&(match x.1.chan with|.chan (some r')=>r'==c|_=>false)) cs.zipIdx.toList k (scase c v z,k) (by rw[hz,hk];rfl) (by simp[scase])
  (fun m x hm hx=>by
   rw[hz] at hx
   cases e:cs[m]? with
   | none=>rw[e] at hx;cases hx
   | some y =>
    rw[e] at hx;simp only[MK,Ba] at hx;subst hx;have hne:=hu m y hm e;simp only[id,Bool.and_eq_false_iff]
    right
    split
    .rename_i r' e'
     simp only[beq_eq_false_iff_ne];intro er;exact hne (er ▸ e')
    .rfl)
 simp only[List.map_id_fun,id] at this;exact congrArg (List.map fun x:CommCase×Nat=>x.2) this
theorem ND(h:∀ cc∈cs,∀ c',cc.chan=.chan (some c')->∃ cap buf s r tm,w.heap[c']? = some (.chan cap buf false s r tm)):(parked g cs sh).again w=parked g cs sh:=by
 simp[Goroutine.again,parked];intro x hx;have:=h cs[x] (Array.getElem_mem hx);split
 .rename_i c' e
  obtain⟨cap,buf,s,r,tm,h2⟩:=this c' e;simp[h2]
 .rfl
end
end Sr
end
section
open Go.Conc
open Cc (Ai y9 heard_new lI wU rR Shut Comm Uv abB)
namespace Sr
structure Mid(X Y:Loc->Bool->Prop)(k B:Nat)(t:Trace):Prop where
 clean:∀ said,¬ Race said t
 known0:∀ i a,touchAt t i=some a->a.loc.isMemory=true->Knows t 0 i\/∃ op,t[i]? = some op/\op.g=k/\Y a.loc a.write
 Cm:∀ i a,touchAt t i=some a->a.loc.isMemory=true->Knows t k i\/∃ op,t[i]? = some op/\op.g=0/\X a.loc a.write
 over:∀ i op,t[i]? = some op->op.g≠0->op.g≠k->t.counts i->∃ j,t.g? j=some 0/\HappensBefore t i j
 hears:Deaf t 0=0
 zw:Deaf t k=0
 seen:∀ op∈t,op.act.low B
section
variable {X Y X' Y':Loc->Bool->Prop}{k B:Nat}{t u:Trace}
theorem Mid.mono{B':Nat}(h:Mid X Y k B t)(hB:B<=B')(hX:∀ l x,X l x->X' l x)(hY:∀ l x,Y l x->Y' l x):Mid X' Y' k B' t :=⟨h.clean,fun i a ha hm=>(h.known0 i a ha hm).imp id fun⟨op,h1,h2,h3⟩=>⟨op,h1,h2,hY _ _ h3⟩,fun i a ha hm=>(h.Cm i a ha hm).imp id fun⟨op,h1,h2,h3⟩=>⟨op,h1,h2,hX _ _ h3⟩,h.over,h.hears,h.zw,fun op hop=>MemAct.low_mono hB (h.seen op hop)⟩
theorem Mid.app0(h:Mid X Y k B t)(hXY:∀ l x y,X l x->Y l y->x=false/\y=false)(hk0:k≠0)(hu:∀ op∈u,op.g=0)(hw:∀ op∈u,∀ b,op.act.touch? = some b->X b.loc b.write)(hd:Deaf (t++u) 0=Deaf t 0)(hl:∀ op∈u,op.act.low B):Mid X Y k B (t++u):=by
 refine⟨fun said=>noRace_append (h.clean said) hu fun i a ha op hop b hb hc=>?_,fun i a ha hm=>?_,fun i a ha hm=>?_,wU h.over fun op hop=>.inl (hu op hop),hd.trans h.hears,(Deaf_other t (by omega) u hu).trans h.zw,seen_app h.seen hl⟩
 .rcases h.known0 i a ha hc.2.1 with hk|⟨_,_,_,ha2⟩
  .exact hk
  .have h2:=hXY _ _ _ (hw op hop b hb) (hc.1 ▸ ha2);rcases hc.2.2.1 with x|x
   .rw[h2.2] at x;cases x
   .rw[h2.1] at x;cases x
 .obtain⟨x,hx,hxa⟩:=touch_of ha;rcases getElem?_append_cases hx with⟨_,hx'⟩|⟨_,hxu⟩
  .rcases h.known0 i a (by rw[touchAt_of hx'];exact hxa) hm with k1|⟨op,k1,k2⟩
   .exact .inl (k1.app u)
   .exact .inr ⟨op,rR k1,k2⟩
  .have:=knows_own hx;rw[hu x hxu] at this;exact .inl this
 .obtain⟨x,hx,hxa⟩:=touch_of ha;rcases getElem?_append_cases hx with⟨_,hx'⟩|⟨_,hxu⟩
  .rcases h.Cm i a (by rw[touchAt_of hx'];exact hxa) hm with k1|⟨op,k1,k2⟩
   .exact .inl (k1.app u)
   .exact .inr ⟨op,rR k1,k2⟩
  .exact .inr ⟨x,hx,hu x hxu,hw x hxu a hxa⟩
theorem Mid.adb(h:Mid X Y k B t)(hXY:∀ l x y,X l x->Y l y->x=false/\y=false)(hk0:k≠0)(hu:∀ op∈u,op.g=k)(hw:∀ op∈u,∀ b,op.act.touch? = some b->Y b.loc b.write)(hd:Deaf (t++u) k=Deaf t k)(hl:∀ op∈u,op.act.low B):Mid X Y k B (t++u):=by
 refine⟨fun said=>noRace_append (h.clean said) hu fun i a ha op hop b hb hc=>?_,fun i a ha hm=>?_,fun i a ha hm=>?_,wU h.over fun op hop=>.inr (.inl (hu op hop)),(Deaf_other t (by omega) u hu).trans h.hears,hd.trans h.zw,seen_app h.seen hl⟩
 .rcases h.Cm i a ha hc.2.1 with hk|⟨_,_,_,ha2⟩
  .exact hk
  .have h2:=hXY _ _ _ (hc.1 ▸ ha2) (hw op hop b hb);rcases hc.2.2.1 with x|x
   .rw[h2.1] at x;cases x
   .rw[h2.2] at x;cases x
 .obtain⟨x,hx,hxa⟩:=touch_of ha;rcases getElem?_append_cases hx with⟨_,hx'⟩|⟨_,hxu⟩
  .rcases h.known0 i a (by rw[touchAt_of hx'];exact hxa) hm with k1|⟨op,k1,k2⟩
   .exact .inl (k1.app u)
   .exact .inr ⟨op,rR k1,k2⟩
  .exact .inr ⟨x,hx,hu x hxu,hw x hxu a hxa⟩
 .obtain⟨x,hx,hxa⟩:=touch_of ha;rcases getElem?_append_cases hx with⟨_,hx'⟩|⟨_,hxu⟩
  .rcases h.Cm i a (by rw[touchAt_of hx'];exact hxa) hm with k1|⟨op,k1,k2⟩
   .exact .inl (k1.app u)
   .exact .inr ⟨op,rR k1,k2⟩
  .have:=knows_own hx;rw[hu x hxu] at this;exact .inl this
theorem Mid.appMute{g:Nat}(h:Mid X Y k B t)(hg:g≠0)(hgk:g≠k)(hu:∀ op∈u,op.g=g)(hn:∀ op∈u,op.act.touch? = none)(hl:∀ op∈u,op.act.low B):Mid X Y k B (t++u):=by
 refine⟨fun said=>noRace_append (h.clean said) hu fun i a _ op hop b hb _=>(by rw[hn op hop] at hb;cases hb),fun i a ha hm=>?_,fun i a ha hm=>?_,wU h.over fun op hop=>.inr (.inr (hn op hop)),(Deaf_other t hg u hu).trans h.hears,(Deaf_other t hgk u hu).trans h.zw,seen_app h.seen hl⟩
 all_goals
  obtain⟨x,hx,hxa⟩:=touch_of ha;rcases getElem?_append_cases hx with⟨_,hx'⟩|⟨_,hxu⟩
 .rcases h.known0 i a (by rw[touchAt_of hx'];exact hxa) hm with k1|⟨op,k1,k2⟩
  .exact .inl (k1.app u)
  .exact .inr ⟨op,rR k1,k2⟩
 .rw[hn x hxu] at hxa;cases hxa
 .rcases h.Cm i a (by rw[touchAt_of hx'];exact hxa) hm with k1|⟨op,k1,k2⟩
  .exact .inl (k1.app u)
  .exact .inr ⟨op,rR k1,k2⟩
 .rw[hn x hxu] at hxa;cases hxa
theorem Mid.start{x y:MemOp}(h:Past Ai B t)(hk0:k≠0)(hk:Deaf t k=0)(hx:x.g=0)(hxa:x.act=.go k)(hy:y.g=k)(hya:y.act=.start):Mid X Y k B (t++#[x]++#[y]):=by
 have hxt:x.act.touch? = none:=by rw[hxa];rfl
 have hyt:y.act.touch? = none:=by rw[hya];rfl
 have hs1:(t++#[x]).size=t.size+1:=by simp
 have ex:(t++#[x]++#[y])[t.size]? = some x:=by rw[getElem?_append_old (by simp)];exact lI _ _
 have ey:(t++#[x]++#[y])[t.size+1]? = some y:=by rw[<-hs1];exact lI _ _
 have d1:Deaf (t++#[x]) 0=Deaf t 0:=by rw[Deaf_push];simp[deafStep,hxa]
 have d2:Deaf (t++#[x]) k=0:=by rw[Deaf_other t (g':=0) (by omega) #[x] (by simp[hx])];exact hk
 have hp1:Past Ai B (t++#[x]):=h.app0 (by simp[hx]) (by intro op hop b hb;simp at hop;subst hop;rw[hxt] at hb;cases hb) d1 (by intro op hop;simp at hop;subst hop;rw[hxa];trivial);have hp2:Past Ai B (t++#[x]++#[y]):=hp1.appMute (g:=k) hk0 (by simp[hy]) (by intro op hop;simp at hop;subst hop;exact hyt) (by intro op hop;simp at hop;subst hop;rw[hya];trivial);have hhx:(t++#[x]++#[y]).heard t.size:=y9 (heard_new (by rw[hx];exact h.hears));have hhy:(t++#[x]++#[y]).heard (t.size+1):=by rw[<-hs1];exact heard_new (by rw[hy];exact d2)
 have afK:HappensBefore (t++#[x]++#[y]) t.size (t.size+1):=.single (.inr ⟨.spawn (child:=k) (by rw[act?_of ex,hxa]) (by rw[act?_of ey,hya]) (by rw[g?_of ey,hy]),hhx,hhy⟩);have abM:∀ i a,touchAt (t++#[x]++#[y]) i=some a->a.loc.isMemory=true->Knows (t++#[x]++#[y]) 0 i/\Knows (t++#[x]++#[y]) k i:=by
  intro i a ha hm;obtain⟨z,hz,hza⟩:=touch_of ha;have hzt:t[i]? = some z:=by
   rcases getElem?_append_cases hz with⟨_,hz'⟩|⟨_,hm'⟩
   .rcases getElem?_append_cases hz' with⟨_,agx⟩|⟨_,hm'⟩
    .exact agx
    .simp at hm';subst hm';rw[hxt] at hza;cases hza
   .simp at hm';subst hm';rw[hyt] at hza;cases hza
  rcases h.known i a (by rw[touchAt_of hzt];exact hza) hm with hk|⟨hf,_⟩
  .refine⟨(hk.app _).app _,t.size+1,y,ey,hy,.inr ?_⟩;exact(hb_app #[y] (hk.hb_new (u:=#[x]) (aY _) (by simp) hx)).trans afK
  .exact hf.elim
 refine⟨hp2.clean,fun i a ha hm=>.inl (abM i a ha hm).1,fun i a ha hm=>.inl (abM i a ha hm).2,fun i op hi h0 hk hc=>hp2.over i op.g (g?_of hi) h0 hc,hp2.hears,?_,hp2.seen⟩;rw[Deaf_push,d2];simp[deafStep,hya]
theorem Mid.past{c pc:Nat}{y:MemOp}(h:Mid X Y k B t)(hXY:∀ l x y,X l x->Y l y->x=false/\y=false)(hk0:k≠0)(hs:Shut k c pc t)(hy:y.g=0)(hya:y.act=.recvClosed c)(hc:c<B):Past Ai B (t++#[y]):=by
 have hyt:y.act.touch? = none:=by rw[hya];rfl
 have ey:(t++#[y])[t.size]? = some y:=lI _ _;have h1:Mid X Y k B (t++#[y]):=h.app0 hXY hk0 (by simp[hy]) (by intro op hop b hb;simp at hop;subst hop;rw[hyt] at hb;cases hb) (by rw[Deaf_push];simp[deafStep,hya]) (by intro op hop;simp at hop;subst hop;rw[hya];exact hc);have hs1:Shut k c pc (t++#[y]):=hs.app (by intro op hop hg;simp at hop;subst hop;exact hyt);obtain⟨op,e1,e2,e3⟩:=hs1.close;have abW:HappensBefore (t++#[y]) pc t.size:=.single (.inr ⟨.closed (c:=c) (by rw[act?_of e1,e3]) (by rw[act?_of ey,hya]),hs1.heard,heard_new (by rw[hy];exact h.hears)⟩);have hk:∀ i z,(t++#[y])[i]? = some z->z.g=k->z.act.touch?≠none->HappensBefore (t++#[y]) i t.size:=by
  intro i z hz hg ht;have hle:=hs1.last i z hz hg ht;rcases qb7 i pc with hlt|hge
  .exact(hb_po hlt hz e1 (by rw[hg,e2])).trans abW
  .obtain rfl:i=pc:=by omega
   exact abW
 refine⟨h1.clean,fun i a ha hm=>?_,fun i g hg h0 hc=>?_,h1.hears,h1.seen⟩
 .rcases h1.known0 i a ha hm with h2|⟨z,hz,hg,_⟩
  .exact .inl h2
  .obtain⟨z',hz',hza⟩:=touch_of ha;rw[hz] at hz';cases hz'
   exact .inl ⟨t.size,y,ey,hy,.inr (hk i z hz hg (by rw[hza];simp))⟩
 .obtain⟨z,hz,hzg⟩:=zA.1 hg;by_cases hgk:g=k
  .obtain⟨x,hx,_⟩:=hc;obtain⟨z',hz',hza⟩:=touch_of hx;rw[hz] at hz';cases hz'
   exact⟨t.size,by rw[g?_of ey,hy],hk i z hz (by rw[hzg,hgk]) (by rw[hza];simp)⟩
  .exact h1.over i z hz (by rw[hzg];exact h0) (by rw[hzg];exact hgk) hc
end
end Sr
end
section
open Go.Conc
open Go.ConcN (sumTo upd sumTo_upd upd_ne upd_same)
namespace Cc
section
variable {P:Program}{k Lw B c:Nat}{t:Trace}
theorem KS{u:Trace}(hu:∀ op∈u,Comm k c op)(g:Nat):Deaf (t++u) g=Deaf t g:=by
 obtain⟨l⟩:=u;exact DZ (fun op hop=>hu op (by simpa using hop)) g
theorem jV.comm{gs gs':Array Goroutine}{q:Nat->Nat}(h:jV P t gs k q){i:Nat}(hi:i=0\/i=k)(hs:gs'.size=gs.size)(hg:∀ j,0<j->j<k->gs'[j]? = gs[j]?){fn:FuncId}{pos:String}{es:Array Event}{u:Trace}(hu:∀ op∈u,Comm k c op):jV P (t++(MemOp.ofEvents i fn pos es++u)) gs' k q:=by
 refine h.keep hs hg fun j h0 hk=>?_
 rw[<-qbF,KS hu];exact Deaf_other t (g':=i) (by omega) _ (fun op hop=>by obtain⟨e,_,rfl⟩:=Go.Conc.mem_ofEvents hop;rfl)
end
section
variable (P:Program)(c Lw:Nat)(S:World->Prop)(z:Value)(Fin:Goroutine->World->Prop)(k:Nat)
def WR(m:Machine)(t:Trace):Prop :=∃ (gs:Array Goroutine)(a:Goroutine)(w:World)(sl:Option (Nat×Nat))(q:Nat->Nat)(B:Nat),m=crowd gs w sl/\gs[0]? = some a/\Fin a w/\Leavers P t gs q/\Past Ai B t/\w.heap.size<=B
end
section
variable {P:Program}{c Lw:Nat}{S:World->Prop}{z:Value}{Fin:Goroutine->World->Prop}{k:Nat}
variable {gs:Array Goroutine}{a b:Goroutine}{w:World}{sl:Option (Nat×Nat)}{t:Trace}{q:Nat->Nat}{B:Nat}{buf:Array Value}{vs:List Value}{ra rb s r:Nat}{tm:Bool}
theorem adA{w:World}{o:Obj}(hc:w.heap[c]? = some o)(hB:w.heap.size<=B):c<B:=CW (fT.1 hc).1 hB
theorem pE{gs:Array Goroutine}{k:Nat}{x:Goroutine}(hs:gs.size=k+1):(gs.setIfInBounds 0 x)[0]? = some x:=by
 rw[Sn (by omega)]
theorem pF{gs:Array Goroutine}{k:Nat}{x:Goroutine}(hs:gs.size=k+1):(gs.setIfInBounds k x)[k]? = some x:=by
 rw[Sn (by omega)]
theorem Qs{i:Nat}{g:Goroutine}(fH:jV P t gs k q)(h0:0<i)(hk:i<k)(hi:gs[i]? = some g)(hr:g.status=.running):∃ m g' es,(∀ e∈es,Event.mute e=true)/\sumTo k (upd q i m)+1=sumTo k q/\(∀ w sl,runT P (crowd gs w sl) i=(.next (crowd ((gs.map (woken P g g' w)).setIfInBounds i g') w sl),MemOp.ofEvents i g.frame.fn g.frame.place es))/\(∀ w,jV P (t++MemOp.ofEvents i g.frame.fn g.frame.place es) ((gs.map (woken P g g' w)).setIfInBounds i g') k (upd q i m)):=by
 have hq:=fH.old i g h0 hk hi;have hi0:(i==0)=false:=by simp;omega
 cases hqi:q i with
 | zero=>rw[hqi] at hq;rw[hq.1] at hr;cases hr
 | succ m =>
  rw[hqi] at hq;rcases hq with⟨hf,_⟩|⟨_,g',es,hm,hstp,hq'⟩
  .rw[hf] at hr;cases hr
  refine⟨m,g',es,hm,?_,fun w sl=>runT_crowd_go hi (by rw[hi0];exact hstp w),fun w=>fH.slip h0 hk hq'⟩;have hs:sumTo k (upd q i m)+(m+1)=sumTo k q+m:=by
   have:=sumTo_upd q m id hk;simpa[hqi] using this
  omega
theorem SY{c pc:Nat}{u:Trace}(sh:Shut k c pc t)(hu:∀ op∈u,op.act.touch? = none):Shut k c pc (t++u):=sh.app fun op hop _=>hu op hop
theorem woken_quits{nb:Nat}{x y:Goroutine}{w':World}(hq:QuitsIn P nb b):woken P x y w' b=b:=woken_quitsD (QuitsD.of_quitsIn hq)
end
end Cc
end
section
open Go.Conc
open Go.ConcN (sumTo upd sumTo_upd upd_ne upd_same)
open Cc (tp Ai jV Shut Comm)
namespace Sr
structure Rel(S X:Nat->Prop)(w ω:World):Prop where
 own:∀ b,X b->ω.heap[b]? = w.heap[b]?
 sh:∀ b,S b->ω.heap[b]? = w.heap[b]?
 size:w.heap.size<=ω.heap.size
 os:ω.os=w.os
 out:ω.output=w.output
 tape:ω.tape=w.tape
theorem Rel.refl(S X:Nat->Prop)(w:World):Rel S X w w:=⟨fun _ _=>rfl,fun _ _=>rfl,aY _,rfl,rfl,rfl⟩
theorem Rel.trans{S X:Nat->Prop}{a b c:World}(h:Rel S X a b)(k:Rel S X b c):Rel S X a c:=⟨fun x hx=>(k.own x hx).trans (h.own x hx),fun x hx=>(k.sh x hx).trans (h.sh x hx),tT h.size k.size,k.os.trans h.os,k.out.trans h.out,k.tape.trans h.tape⟩
theorem Rel.at(S X:Nat->Prop)(w:World)(d:Nat):Rel S X w (w.at d):=⟨fun _ _=>rfl,fun _ _=>rfl,aY _,rfl,rfl,rfl⟩
def EvX(X S:Nat->Prop)(n:Nat)(e:Event):Prop:=Ev (fun _ b=>X b) n e\/(Ev (fun _ b=>S b) n e/\e.write=false)
def Qt(S:Nat->Prop)(e:Event):Prop:=∀ b,blk e.loc=some b->S b->e.write=false
def QS(S:Nat->Prop)(w w':World)(es:Array Event):Prop:=(∀ e∈es,Qt S e)/\∀ b,S b->w'.heap[b]? = w.heap[b]?
theorem QS.nil{S:Nat->Prop}{w:World}{τ:Nat->Question->Nat}{d:Nat}:QS S w (tp w τ d) #[]:=⟨by simp,fun _ _=>rfl⟩
theorem acA{R:Nat->Nat->Prop}{n b:Nat}{e:Event}(h:Ev R n e)(hb:blk e.loc=some b):∃ a,R a b:=by
 rcases h with⟨a,x,h1,h2,_⟩|⟨r,x,h1,h2,_⟩|⟨m,h1,_⟩
 .rw[h1] at hb;cases hb;exact⟨x,h2⟩
 .rw[h1] at hb;cases hb;exact⟨x,h2⟩
 .rw[h1] at hb;cases hb
structure iw(S X:Nat->Prop)(w w':World)(es:Array Event)(X':Nat->Prop):Prop where
 size:w.heap.size<=w'.heap.size
 os:w'.os=w.os
 out:w'.output=w.output
 tape:w'.tape=w.tape
 frame:∀ b,b<w.heap.size->¬ X b->w'.heap[b]? = w.heap[b]?
 sub:∀ b,X b->X' b
 new:∀ b,X' b->X b\/(w.heap.size<=b/\b<w'.heap.size)
 ev:∀ e∈es,EvX X' S w'.heap.size e
def MG(P:Program)(S:Nat->Prop)(Stop:(Nat->Prop)->Goroutine->World->Prop):Nat->(Nat->Prop)->Goroutine->World->Prop
 | 0,X,g,w=>∀ ω,Rel S X w ω->Stop X g ω
 | n+1,X,g,w=>(∀ ω,Rel S X w ω->Stop X g ω)\/(g.status=.running/\∀ ω,Rel S X w ω->∃ g' w' es X',stepG P true g ω=.go g' w' es/\iw S X ω w' es X'/\MG P S Stop n X' g' w')
theorem MG.rely{P:Program}{S:Nat->Prop}{Stop:(Nat->Prop)->Goroutine->World->Prop}:∀ {n:Nat}{X:Nat->Prop}{g:Goroutine}{w ω:World},MG P S Stop n X g w->Rel S X w ω->MG P S Stop n X g ω
 | 0,X,g,w,ω,h,hr=>fun ψ Ξ=>h ψ (hr.trans Ξ)
 | n+1,X,g,w,ω,h,hr=>h.imp (fun h ψ Ξ=>h ψ (hr.trans Ξ)) fun⟨h1,h⟩=>⟨h1,fun ψ Ξ=>h ψ (hr.trans Ξ)⟩
theorem MG.cases{P:Program}{S:Nat->Prop}{Stop:(Nat->Prop)->Goroutine->World->Prop}{n:Nat}{X:Nat->Prop}{g:Goroutine}{w:World}(h:MG P S Stop n X g w):(∀ ω,Rel S X w ω->Stop X g ω)\/∃ n',n=n'+1/\g.status=.running/\∀ ω,Rel S X w ω->∃ g' w' es X',stepG P true g ω=.go g' w' es/\iw S X ω w' es X'/\MG P S Stop n' X' g' w':=by
 cases n with
 | zero=>exact .inl h
 | succ n=>exact h.imp id fun h=>⟨n,rfl,h⟩
def AtRecv(P:Program)(S:Nat->Prop)(c:Nat)(z:Value)(X:Nat->Prop)(g:Goroutine)(w:World)(N:Prop):Prop :=g.status=.running/\(∃ es,stepG P true g w=.comm (core g) #[rcase c z] true (.recv true) w es/\∀ e∈es,EvX X S w.heap.size e)/\N
theorem MG.running{P:Program}{S:Nat->Prop}{Stop:(Nat->Prop)->Goroutine->World->Prop}(hS:∀ X g w,Stop X g w->g.status=.running){n:Nat}{X:Nat->Prop}{g:Goroutine}{w:World}(h:MG P S Stop n X g w):g.status=.running:=by
 rcases h.cases with h|⟨_,_,h,_⟩
 .exact hS _ _ _ (h w (Rel.refl S X w))
 .exact h
inductive GW(P:Program)(L:FuncId->Bool)(S:Nat->Prop)(Φ:Frame->List Frame->World->Prop):Frame->List Frame->World->Prop
 | stop {fr:Frame} {cs:List Frame} {w:World} (h:∀ τ d,Φ fr cs (tp w τ d)):GW P L S Φ fr cs w
 | step {fr:Frame} {cs:List Frame} {w:World} (hn:dS P L false fr) (hne:cs=[]->fr.mode=.run\/fr.defers≠[]) (fr':(Nat->Question->Nat)->Nat->Frame) (cs':(Nat->Question->Nat)->Nat->List Frame) (w':(Nat->Question->Nat)->Nat->World) (es:(Nat->Question->Nat)->Nat->Array Event)
   (h:∀ τ d,stepG P false (G fr cs) (tp w τ d)=.go (G (fr' τ d) (cs' τ d)) (w' τ d) (es τ d)) (hq:∀ τ d,QS S w (w' τ d) (es τ d)) (ht:∀ τ d,GW P L S Φ (fr' τ d) (cs' τ d) (w' τ d)):GW P L S Φ fr cs w
theorem GW.step'{P:Program}{L:FuncId->Bool}{S:Nat->Prop}{Φ:Frame->List Frame->World->Prop}{fr:Frame}{cs:List Frame}{w:World}(hn:dS P L false fr)(hne:cs=[]->fr.mode=.run\/fr.defers≠[])(h:∀ τ d,∃ fr' cs' w' es,stepG P false (G fr cs) (tp w τ d)=.go (G fr' cs') w' es/\QS S w w' es/\GW P L S Φ fr' cs' w'):GW P L S Φ fr cs w:=by
 have h':∀ r:(Nat->Question->Nat)×Nat,∃ s:Frame×List Frame×World×Array Event,stepG P false (G fr cs) (tp w r.1 r.2)=.go (G s.1 s.2.1) s.2.2.1 s.2.2.2/\QS S w s.2.2.1 s.2.2.2/\GW P L S Φ s.1 s.2.1 s.2.2.1:=fun r=>by
  obtain⟨fr',cs',w',es,h1,h0,h2⟩:=h r.1 r.2;exact⟨(fr',cs',w',es),h1,h0,h2⟩
 obtain⟨g,hg⟩:=qbU.1 h';exact .step hn hne (fun τ d=>(g (τ,d)).1) (fun τ d=>(g (τ,d)).2.1) (fun τ d=>(g (τ,d)).2.2.1) (fun τ d=>(g (τ,d)).2.2.2) (fun τ d=>(hg (τ,d)).1) (fun τ d=>(hg (τ,d)).2.1) (fun τ d=>(hg (τ,d)).2.2)
theorem GW.bind{P:Program}{L:FuncId->Bool}{S:Nat->Prop}{Φ Ψ:Frame->List Frame->World->Prop}{fr:Frame}{cs:List Frame}{w:World}(h:GW P L S Φ fr cs w)(hn:∀ fr cs w,(∀ τ d,Φ fr cs (tp w τ d))->GW P L S Ψ fr cs w):GW P L S Ψ fr cs w:=by
 induction h with
 | stop h=>exact hn _ _ _ h
 | step hok hne fr' cs' w' es h hq ht ih=>exact .step hok hne fr' cs' w' es h hq ih
theorem IX{l:List (Nat×Value)}{ops:Array Oper}(tmps:Array Value)(ho:(ops.all fun o=>Vt l o)=true):yielded ops (over l tmps)=yielded ops tmps:=by
 funext j;unfold yielded
 cases hj:ops[j]? with
 | none=>rfl
 | some o =>
  simp only[Option.bind_some]
  cases hd:o.dst with
  | none=>rfl
  | some d =>
   simp only[Option.bind_some];have ha:avD l o.dst=true:=by
    rw[YF] at ho;obtain⟨hlt,he⟩:=fT.1 hj;have:=ho j hlt;rw[he] at this;simp only[Vt,fE] at this;exact this.2
   rw[hd] at ha;rw[o9 _ _ _ ha]
theorem Tx{P:Program}{L:FuncId->Bool}{K:Op->Bool}{fr:Frame}{cs:List Frame}(T:xH)(hi:UQ P L K T fr cs)(h:dS P L true fr)(hf:cs=[]->fr.mode=.run\/fr.defers≠[]):dS P L false (uz T fr cs):=by
 have key:dS P L false fr:=by
  unfold dS at h ⊢
  cases hm:fr.mode with
  | run =>
   rw[hm] at h;exact fun ops i l k o h1 h2 h3=>⟨(h ops i l k o h1 h2 h3).1,(h ops i l k o h1 h2 h3).2.1,fun _ _=>rfl,fun _ _ _=>rfl,fun _ _ _=>rfl⟩
  | returning=>rw[hm] at h;exact h
  | panicking ch=>rw[hm] at h;exact h
 cases cs with
 | cons c cs=>exact key
 | nil =>
  show dS P L false (iR T fr);have hd:∀ d ds,fr.mode≠.run->(iR T fr).defers=d::ds->∃ ds',fr.defers=d::ds':=by
   intro d ds hm hd;have hne:=(hf rfl).resolve_left hm
   cases hx:fr.defers with
   | nil=>exact absurd hx hne
   | cons a l =>
    unfold iR at hd;rw[hx] at hd;simp only[NJ,qbo] at hd;exact⟨l,by rw[hd.1]⟩
  unfold dS at key ⊢;have e1:(iR T fr).mode=fr.mode:=rfl;rw[e1]
  cases hm:fr.mode with
  | run =>
   rw[hm] at key;intro ops i l k o h1 h2 h3;have hi':Items P L K T.2.2 fr.todo:=hi.1;have h1':∃ k,fr.todo=.inRegion ops (i::l)::k:=by
    have hc:=hi.2.cut;have h1c:o8 T.1.2 fr.todo=.inRegion ops (i::l)::k:=h1;rw[h1c] at hc;generalize fr.todo=t at hc
    cases t with
    | nil=>cases hc.nil
    | cons x t =>
     rcases hc.cons with⟨ζ,e,_⟩|⟨r,_,_,_,_,_,_,e⟩
     .injection e with e1 e2;exact⟨t,by rw[e1]⟩
     .injection e with e1 e2;cases r <;> cases e1
   obtain⟨k,h1'⟩:=h1';rw[h1'] at hi';have AY:=(aH.1 hi').1;simp only[Jr,YF,fE] at AY;have hall:(ops.all fun o=>Vt T.2.2 o)=true:=by
    simp only[YF];exact fun i hi=>(AY i hi).2
   have h3':Region.wanted o (yielded ops fr.tmps)=true:=by
    have:yielded ops (iR T fr).tmps=yielded ops fr.tmps:=IX fr.tmps hall;rw[this] at h3;exact h3
   have hk:=key ops i l k o h1' h2 h3';refine⟨hk.1,fun x hx=>?_,hk.2.2⟩;have hax:avX T.2.2 x=true:=by
    obtain⟨hlt,he⟩:=fT.1 h2;have:=(AY i hlt).2;rw[he] at this;simp only[Vt,fE] at this;have h4:=this.1;rw[hx] at h4;simpa[Op.operands] using h4
   have e:(iR T fr).eval x=fr.eval x:=by
    cases x with
    | tmp t =>
     show(over T.2.2 fr.tmps).getD t au=fr.tmps.getD t au;rw[Az,Az,o9 _ _ _ hax]
    | _=>rfl
   rw[e];exact hk.2.1 x hx
  | returning =>
   rw[hm] at key;intro d ds b ts t c h1 h2;obtain⟨ds',h3⟩:=hd d ds (by rw[hm];simp) h1;exact key d ds' b ts t c h3 h2
  | panicking ch =>
   rw[hm] at key;intro d ds b ts t c h1 h2;obtain⟨ds',h3⟩:=hd d ds (by rw[hm];simp) h1;exact key d ds' b ts t c h3 h2
theorem GT.above{P:Program}{L:FuncId->Bool}{K:Op->Bool}{S:Nat->Prop}{Φ Ψ:Frame->List Frame->World->Prop}{fr:Frame}{cs:List Frame}{w:World}(h:GT P L K S Φ fr cs w){T:xH}(hT:OkT T)(hi:UQ P L K T fr cs){B:List Frame}(hB:B≠[])(hn:∀ fr cs w,UQ P L K T fr cs->(∀ τ d,Φ fr cs (tp w τ d))->GW P L S Ψ (uz T fr cs) (yR T cs++B) w):GW P L S Ψ (uz T fr cs) (yR T cs++B) w:=by
 induction h with
 | stop h=>exact hn _ _ _ hi h
 | @step fr cs w hok hf fr' cs' w' h ht ih =>
  refine GW.step' (Tx T hi hok hf) (fun e=>absurd e (by simp[hB])) fun τ d=>?_
  have h1:=h τ d;obtain⟨hi',es,he,hev⟩:=h1.eqT T B false τ d hT hi (fun i _=>rfl);have e:tp (w' τ d) τ (d+((w' τ d).drawn-(tp w τ d).drawn))=w' τ d:=by
   have hd':d<=(w' τ d).drawn:=h1.drawn;have ht':(w' τ d).tape=τ:=h1.tape;generalize w' τ d=W at hd' ht';show({W with tape:=τ,drawn:=d+(W.drawn-d)}:World)=_;rw[show d+(W.drawn-d)=W.drawn by omega,<-ht']
  rw[e] at he;exact⟨_,_,_,_,he,⟨fun e he b hb hS=>by
   obtain⟨_,h2⟩:=acA (hev e he) hb;exact absurd hS h2,h1.frame⟩,ih τ d hi'⟩
section
variable {P:Program}{L:FuncId->Bool}{K:Op->Bool}{c n0:Nat}{w0:World}{R0 R:Nat->Nat->Prop}{S X X':Nat->Prop}{w w':World}{fr aB:Frame}{cs χ:List Frame}{wg:World}
structure RG(P:Program)(L:FuncId->Bool)(K:Op->Bool)(R:Nat->Nat->Prop)(fr:Frame)(cs:List Frame)(wg:World)(aB:Frame)(χ:List Frame)(w:World):Prop where
 gb:GB P R
 bnd:FZ R wg.heap.size w.heap.size
 heap:HR R L wg.heap w.heap
 sl:SL P R L K false O0 [] [] fr cs aB χ
structure Own2(L:FuncId->Bool)(S:Nat->Prop)(c n0:Nat)(w0:World)(R0:Nat->Nat->Prop)(R:Nat->Nat->Prop)(X:Nat->Prop)(w:World):Prop where
 cR:∀ a,¬ R a c
 cX:¬ X c
 Af:∀ a b,R a b->¬ X b
 own:∀ b,X b->n0<=b/\b<w.heap.size
 frame:∀ b,b<n0->(∀ a,¬ R a b)->b≠c->w.heap[b]? = w0.heap[b]?
 os:w.os=w0.os
 out:w.output=w0.output
 tape:w.tape=w0.tape
 sup:∀ a b,R0 a b->R a b
 E8:n0<=w.heap.size
 Zz:c<w.heap.size
 sid:∀ a b,R a b->S b->a=b
 slt:∀ b,S b->b<n0
 low:∀ a b,R a b->b<n0->R0 a b
 ss:∀ b,S b->R b b
 oq:∀ b:Nat,L (2*b+1000000001)=true->b<n0
theorem RG.at(h:RG P L K R fr cs wg aB χ w)(d:Nat):RG P L K R fr cs wg aB χ (w.at d):=⟨h.gb,h.bnd,h.heap,h.sl⟩
theorem Own2.at(h:Own2 L S c n0 w0 R0 R X w)(d:Nat):Own2 L S c n0 w0 R0 R X (w.at d):=⟨h.cR,h.cX,h.Af,h.own,h.frame,h.os,h.out,h.tape,h.sup,h.E8,h.Zz,h.sid,h.slt,h.low,h.ss,h.oq⟩
def Dis(c:Nat)(X:Nat->Prop)(R:Nat->Nat->Prop):Prop:=(∀ a b,R a b->¬ X b)/\¬ X c
theorem Own2.Vv(h:Own2 L S c n0 w0 R0 R X w):Dis c X R:=⟨h.Af,h.cX⟩
theorem Own2.cS(h:Own2 L S c n0 w0 R0 R X w):¬ S c:=fun hS=>h.cR c (h.ss c hS)
theorem zC(hb:FZ R wg.heap.size w.heap.size)(hh:HR R L wg.heap w.heap)(ho:Own2 L S c n0 w0 R0 R X w){es:Array Event}(h1:iw S X w w' es X'):HR R L wg.heap w'.heap/\FZ R wg.heap.size w'.heap.size:=by
 refine⟨⟨fun a b hab=>?_,fun b Zh=>?_,hh.Af⟩,fun a b hab=>⟨(hb a b hab).1,CW (hb a b hab).2 h1.size⟩⟩
 .rw[h1.frame b (hb a b hab).2 (ho.Af a b hab)];exact hh a b hab
 .obtain⟨x,e,h2,h3⟩:=hh.opq b Zh;refine⟨x,e,h2,?_⟩;rw[h1.frame b (fT.1 h3).1 fun hx=>?_]
  .exact h3
  .have:=(ho.own b hx).1;have:=ho.oq b Zh;omega
theorem RG.main(h:RG P L K R fr cs wg aB χ w)(ho:Own2 L S c n0 w0 R0 R X w){es:Array Event}(h1:iw S X w w' es X'):RG P L K R fr cs wg aB χ w' :=⟨h.gb,(zC h.bnd h.heap ho h1).2,(zC h.bnd h.heap ho h1).1,h.sl⟩
theorem Own2.main(ho:Own2 L S c n0 w0 R0 R X w)(hb:FZ R wg.heap.size w.heap.size){es:Array Event}(h1:iw S X w w' es X'):Own2 L S c n0 w0 R0 R X' w'/\w'.heap[c]? = w.heap[c]?:=by
 refine⟨⟨ho.cR,fun hx=>?_,fun a b hab hx=>?_,fun b hx=>?_,fun b hb' hn hc=>?_,h1.os.trans ho.os,h1.out.trans ho.out,h1.tape.trans ho.tape,ho.sup,tT ho.E8 h1.size,CW ho.Zz h1.size,ho.sid,ho.slt,ho.low,ho.ss,ho.oq⟩,h1.frame c ho.Zz ho.cX⟩
 .rcases h1.new c hx with h|h
  .exact ho.cX h
  .have:=ho.Zz;omega
 .rcases h1.new b hx with h|h
  .exact ho.Af a b hab h
  .have:=(hb a b hab).2;omega
 .rcases h1.new b hx with h|h
  .exact⟨(ho.own b h).1,CW (ho.own b h).2 h1.size⟩
  .exact⟨tT ho.E8 h.1,h.2⟩
 .rw[h1.frame b (CW hb' ho.E8) (fun hx=>by have:=(ho.own b hx).1;omega)];exact ho.frame b hb' hn hc
structure Wrk(L:FuncId->Bool)(S:Nat->Prop)(R R':Nat->Nat->Prop)(X:Nat->Prop)(c n0:Nat)(w0:World)(R0:Nat->Nat->Prop)(w w':World)(es:Array Event):Prop where
 own:Own2 L S c n0 w0 R0 R' X w'
 chan:w'.heap[c]? = w.heap[c]?
 rel:Rel S X w w'
 ev:∀ e∈es,Ev R' w'.heap.size e/\Qt S e
 sup:∀ a b,R a b->R' a b
theorem Wx{k:Nat}{es:Array Event}{IQ:World}{τ:Nat->Question->Nat}{d:Nat}(hgb:GB P R)(PK:FZ R wg.heap.size w.heap.size)(hheap:HR R L wg.heap w.heap)(ho:Own2 L S c n0 w0 R0 R X w)(hk:IQ.heap.size=wg.heap.size+k){eg:Array Event}(hq:QS S wg IQ eg)(hwd:Wd (ext R wg.heap.size w.heap.size k) L (tp wg τ d) w IQ w' #[] eg #[] es):Wrk L S R (ext R wg.heap.size w.heap.size k) X c n0 w0 R0 w w' es:=by
 have hsz:w'.heap.size=w.heap.size+k:=by have:=hwd.size;have e:(tp wg τ d).heap.size=wg.heap.size:=rfl;rw[e] at this;omega
 have hw:=hwd.world;have e1:w'.os=w.os:=by rw[hw]
 have e2:w'.output=w.output:=by rw[hw]
 have e3:w'.tape=w.tape:=by rw[hw]
 have hn:∀ b,b<w.heap.size->(∀ a,¬ R a b)->∀ a,¬ ext R wg.heap.size w.heap.size k a b:=by
  rintro b hb hn a (h|⟨i,_,_,rfl⟩)
  .exact hn a h
  .omega
 have acP:∀ a b,ext R wg.heap.size w.heap.size k a b->S b->a=b:=by
  rintro a b (h|⟨i,_,_,rfl⟩) hS
  .exact ho.sid a b h hS
  .have:=ho.slt _ hS;have:=ho.E8;omega
 have hlow:∀ a b,ext R wg.heap.size w.heap.size k a b->b<n0->R0 a b:=by
  rintro a b (h|⟨i,_,_,rfl⟩) hb
  .exact ho.low a b h hb
  .have:=ho.E8;omega
 have hch:w'.heap[c]? = w.heap[c]?:=hwd.frame c ho.Zz (hn c ho.Zz ho.cR);refine⟨⟨hn c ho.Zz ho.cR,ho.cX,?_,fun b hx=>⟨(ho.own b hx).1,by have:=(ho.own b hx).2;omega⟩,fun b hb hnb hc=>?_,e1.trans ho.os,e2.trans ho.out,e3.trans ho.tape,fun a b h=>.inl (ho.sup a b h),by have:=ho.E8;omega,by have:=ho.Zz;omega,acP,ho.slt,hlow,fun b hS=>.inl (ho.ss b hS),ho.oq⟩,hch,⟨fun b hx=>?_,fun b hS=>?_,by omega,e1,e2,e3⟩,?_,fun a b h=>.inl h⟩
 .rintro a b (h|⟨i,_,_,rfl⟩) hx
  .exact ho.Af a b h hx
  .have:=(ho.own _ hx).2;omega
 .have hlt:b<w.heap.size:=CW hb ho.E8;rw[hwd.frame b hlt hnb];exact ho.frame b hb (fun a h=>hnb a (.inl h)) hc
 .exact hwd.frame b (ho.own b hx).2 (hn b (ho.own b hx).2 fun a h=>ho.Af a b h hx)
 .have h1:=hheap b b (ho.ss b hS);have h2:=hwd.heap b b (.inl (ho.ss b hS));have h3:IQ.heap[b]? = wg.heap[b]?:=hq.2 b hS;rw[h3] at h2;exact(OO.fn (fun a b b' h h'=>(hgb.ext PK k).fn a b b' h h') (fun a b h=>(hwd.heap.Af a b h).1) (h1.mono fun a b h=>.inl h) h2).symm
 .obtain⟨l,hl0,hl1,hl2⟩:=hwd.ev;intro e he;rw[hl1] at he;have he:e∈l.map (·.2):=by simpa using he
  obtain⟨p,hp,rfl⟩:=ZW.1 he;have hpe:=hl2 p hp;refine⟨hpe.ev,fun b hb hS=>?_⟩;have hg:Qt S p.1:=hq.1 p.1 (by rw[hl0];simpa using⟨p.2,hp⟩);obtain⟨e0,e1⟩:=p;simp only at hpe hg hb
  cases hpe with
  | cell a b' wr h hn =>
   cases hb
   exact hg a.block rfl (by rw[acP _ _ h hS];exact hS)
  | obj r r' wr h hn =>
   cases hb
   exact hg r rfl (by rw[acP _ _ h hS];exact hS)
  | mark m hm=>cases hb
theorem Sk(hK:vB P L K)(hL:∀ f,L f=true->fK P f)(h:RG P L K R fr cs wg aB χ w)(ho:Own2 L S c n0 w0 R0 R X w)(hn:dS P L false fr)(hne:cs=[]->fr.mode=.run\/fr.defers≠[]){fr':Frame}{cs':List Frame}{IQ:World}{es':Array Event}(hst:stepG P false (G fr cs) (tp wg (fun j=>w.tape (w.drawn+j)) 0)=.go (G fr' cs') IQ es')(hq:QS S wg IQ es'):∃ bC dA w' es R',stepG P false (G aB χ) w=.go (G bC dA) w' es/\RG P L K R' fr' cs' IQ bC dA w'/\Wrk L S R R' X c n0 w0 R0 w w' es:=by
 obtain⟨k,hk,hsg,hwd⟩:=xV (main:=false) (dK:=false) (w:=tp wg (fun j=>w.tape (w.drawn+j)) 0) (ω:=w) (B:=[]) (dI:=[]) h.gb hK hL h.bnd h.heap h.sl hn hne (by rw[hst];exact id) (fun i _=>by simp[tp]);rw[hst] at hk hsg hwd;generalize hs₁:stepG P false (G aB χ) w=s₁ at hsg hwd
 cases hsg with
 | @go _ bC _ dA _ w' _ es hsl =>
  have hk':IQ.heap.size=wg.heap.size+k:=hk;have hW:=Wx (X:=X) h.gb h.bnd h.heap ho hk' hq hwd;have X9:Wd (ext R wg.heap.size w.heap.size k) L (tp wg (fun j=>w.tape (w.drawn+j)) 0) w IQ w' #[] es' #[] es:=hwd;refine⟨bC,dA,w',es,_,rfl,⟨h.gb.ext h.bnd k,?_,X9.heap,hsl⟩,hW⟩;have hsz:w'.heap.size=w.heap.size+k:=by have:=X9.size;have e:(tp wg (fun j=>w.tape (w.drawn+j)) 0).heap.size=wg.heap.size:=rfl;rw[e] at this;omega
  rintro a b (hab|⟨i,hi,rfl,rfl⟩)
  .have:=h.bnd a b hab;omega
  .have e:(tp wg (fun j=>w.tape (w.drawn+j)) 0).heap.size=wg.heap.size:=rfl;omega
theorem Ua(hK:vB P L K)(hL:∀ f,L f=true->fK P f)(h:RG P L K R fr cs wg aB χ w)(ho:Own2 L S c n0 w0 R0 R X w)(hn:dS P L false fr)(hne:cs≠[]){cases:Array CommCase}{bl:Bool}{sh:CommShape}{IQ:World}{es':Array Event}(hst:stepG P false (G fr cs) (tp wg (fun j=>w.tape (w.drawn+j)) 0)=.comm (G fr cs) cases bl sh IQ es')(hq:QS S wg IQ es'):∃ bC dA D8 w' es R',stepG P false (G aB χ) w=.comm (G bC dA) D8 bl sh w' es/\CV R' L cases D8/\RG P L K R' fr cs IQ bC dA w'/\Wrk L S R R' X c n0 w0 R0 w w' es:=by
 obtain⟨k,hk,hsg,hwd⟩:=xV (main:=false) (dK:=false) (w:=tp wg (fun j=>w.tape (w.drawn+j)) 0) (ω:=w) (B:=[]) (dI:=[]) h.gb hK hL h.bnd h.heap h.sl hn (fun e=>absurd e hne) (by rw[hst];exact id) (fun i _=>by simp[tp]);rw[hst] at hk hsg hwd;generalize hs₁:stepG P false (G aB χ) w=s₁ at hsg hwd
 cases hsg with
 | @comm _ bC _ dA _ w' _ es x y hz hsl hxy b s =>
  have hk':IQ.heap.size=wg.heap.size+k:=hk;have hW:=Wx (X:=X) h.gb h.bnd h.heap ho hk' hq hwd;have X9:Wd (ext R wg.heap.size w.heap.size k) L (tp wg (fun j=>w.tape (w.drawn+j)) 0) w IQ w' #[] es' #[] es:=hwd;refine⟨bC,dA,y,w',es,_,rfl,hxy,⟨h.gb.ext h.bnd k,?_,X9.heap,hsl⟩,hW⟩;have hsz:w'.heap.size=w.heap.size+k:=by have:=X9.size;have e:(tp wg (fun j=>w.tape (w.drawn+j)) 0).heap.size=wg.heap.size:=rfl;rw[e] at this;omega
  rintro a b (hab|⟨i,hi,rfl,rfl⟩)
  .have:=h.bnd a b hab;omega
  .have e:(tp wg (fun j=>w.tape (w.drawn+j)) 0).heap.size=wg.heap.size:=rfl;omega
end
end Sr
end
section
open Go.Conc
open Go.ConcN (sumTo upd sumTo_upd upd_ne upd_same)
open Cc (tp Ai jV Shut Comm heard_new lI)
namespace Sr
def XL(S X:Nat->Prop)(l:Loc)(wr:Bool):Prop:=∃ b,blk l=some b/\(X b\/(S b/\wr=false))
def YL(S:Nat->Prop)(c:Nat)(R:Nat->Nat->Prop)(l:Loc)(wr:Bool):Prop:=∃ b,blk l=some b/\((∃ a,R a b/\(S b->wr=false))\/(b=c/\wr=false))
theorem EG{R:Nat->Nat->Prop}{n:Nat}{e:Event}(h:Ev R n e):(MemAct.ofEvent e).low n/\(e.loc≠.mark .disable/\e.loc≠.mark .enable)/\∀ b,(MemAct.ofEvent e).touch? = some b->b.loc=e.loc/\b.write=e.write/\∃ x y,blk e.loc=some x/\R y x:=by
 obtain⟨loc,wr,sy⟩:=e;rcases h with⟨a,x,h1,h2,h3,h4⟩|⟨r,x,h1,h2,h3,h4⟩|⟨m,h1,h2,h3,h4⟩
 .simp only at h1 h4;subst h1 h4;refine⟨?_,by simp,fun b hb=>?_⟩
  .show a.block<n;exact h3
  .simp[MemAct.ofEvent,MemAct.touch?] at hb;subst hb;exact⟨rfl,rfl,_,x,rfl,h2⟩
 .simp only at h1 h4;subst h1 h4;refine⟨?_,by simp,fun b hb=>?_⟩
  .cases wr
   .show r<n;exact h3
   .show r<n;exact h3
  .simp[MemAct.ofEvent,MemAct.touch?] at hb;subst hb;exact⟨rfl,rfl,_,x,rfl,h2⟩
 .simp only at h1 h3 h4;subst h1 h3 h4
  cases m <;> first|(cases h2;done)|exact⟨trivial,by simp,fun b hb=>by simp[MemAct.ofEvent,MemAct.touch?] at hb⟩
section
variable {S X:Nat->Prop}{R:Nat->Nat->Prop}{c k B n:Nat}{t:Trace}
theorem yO(hd:Dis c X R):∀ l x y,XL S X l x->YL S c R l y->x=false/\y=false:=by
 rintro l x y ⟨b,h1,h2⟩ ⟨b',h3,h4⟩;rw[h1] at h3
 cases h3
 rcases h4 with⟨a,h4,h5⟩|⟨h4,h5⟩
 .rcases h2 with h2|⟨h2,h6⟩
  .exact absurd h2 (hd.1 _ _ h4)
  .exact⟨h6,h5 h2⟩
 .rcases h2 with h2|⟨h2,h6⟩
  .exact absurd (h4 ▸ h2) hd.2
  .exact⟨h6,h5⟩
theorem Ic{e:Event}(h:EvX X S n e):(MemAct.ofEvent e).low n/\(e.loc≠.mark .disable/\e.loc≠.mark .enable)/\∀ b,(MemAct.ofEvent e).touch? = some b->XL S X b.loc b.write:=by
 rcases h with h|⟨h,hw⟩
 .have:=EG h;refine⟨this.1,this.2.1,fun b hb=>?_⟩;obtain⟨e1,e2,x,_,h1,h2⟩:=this.2.2 b hb;exact⟨x,by rw[e1];exact h1,.inl h2⟩
 .have:=EG h;refine⟨this.1,this.2.1,fun b hb=>?_⟩;obtain⟨e1,e2,x,_,h1,h2⟩:=this.2.2 b hb;exact⟨x,by rw[e1];exact h1,.inr ⟨h2,e2.trans hw⟩⟩
theorem aaQ{e:Event}(h:Ev R n e)(hq:Qt S e):∀ b,(MemAct.ofEvent e).touch? = some b->YL S c R b.loc b.write:=by
 intro b hb;obtain⟨e1,e2,x,y,h1,h2⟩:=(EG h).2.2 b hb;exact⟨x,by rw[e1];exact h1,.inl ⟨y,h2,fun hS=>by rw[e2];exact hq x h1 hS⟩⟩
theorem Mid.Zb(h:Mid (XL S X) (YL S c R) k B t)(hd:Dis c X R)(hk0:k≠0){fn:FuncId}{pos:String}{es:Array Event}(hn:n<=B)(hes:∀ e∈es,EvX X S n e):Mid (XL S X) (YL S c R) k B (t++MemOp.ofEvents 0 fn pos es):=by
 refine h.app0 (yO hd) hk0 (fun op hop=>by obtain⟨e,_,rfl⟩:=Go.Conc.mem_ofEvents hop;rfl) (fun op hop b hb=>?_) ?_ (fun op hop=>by obtain⟨e,he,rfl⟩:=Go.Conc.mem_ofEvents hop;exact MemAct.low_mono hn (Ic (hes e he)).1)
 .obtain⟨e,he,rfl⟩:=Go.Conc.mem_ofEvents hop;exact(Ic (hes e he)).2.2 b hb
 .rw[Deaf_own];exact deafBehind_still (fun e he=>(Ic (hes e he)).2.1) _
theorem Mid.afP(h:Mid (XL S X) (YL S c R) k B t)(hd:Dis c X R)(hk0:k≠0){fn:FuncId}{pos:String}{es:Array Event}(hn:n<=B)(hes:∀ e∈es,Ev R n e/\Qt S e):Mid (XL S X) (YL S c R) k B (t++MemOp.ofEvents k fn pos es):=by
 refine h.adb (yO hd) hk0 (fun op hop=>by obtain⟨e,_,rfl⟩:=Go.Conc.mem_ofEvents hop;rfl) (fun op hop b hb=>?_) ?_ (fun op hop=>by obtain⟨e,he,rfl⟩:=Go.Conc.mem_ofEvents hop;exact MemAct.low_mono hn (EG (hes e he).1).1)
 .obtain⟨e,he,rfl⟩:=Go.Conc.mem_ofEvents hop;exact aaQ (hes e he).1 (hes e he).2 b hb
 .rw[Deaf_own];exact deafBehind_still (fun e he=>(EG (hes e he).1).2.1) _
theorem Mid.ab0(h:Mid (XL S X) (YL S c R) k B t)(hd:Dis c X R)(hk0:k≠0)(hc:c<B){op:MemOp}(ho:Comm k c op):Mid (XL S X) (YL S c R) k B (t++#[op]):=by
 rcases ho.1 with h0|h0
 .exact h.app0 (yO hd) hk0 (by simp[h0]) (by intro x hx b hb;simp at hx;subst hx;rw[ho.touch] at hb;cases hb) (by rw[Deaf_push,ho.deaf]) (by intro x hx;simp at hx;subst hx;exact ho.low hc)
 .exact h.adb (yO hd) hk0 (by simp[h0]) (by intro x hx b hb;simp at hx;subst hx;rw[ho.touch] at hb;cases hb) (by rw[Deaf_push,ho.deaf]) (by intro x hx;simp at hx;subst hx;exact ho.low hc)
theorem Mid.comms(hd:Dis c X R)(hk0:k≠0)(hc:c<B):∀ {u:List MemOp}{t:Trace},Mid (XL S X) (YL S c R) k B t->(∀ op∈u,Comm k c op)->Mid (XL S X) (YL S c R) k B (t++u.toArray)
 | [],t,h,_=>by simpa using h
 | x::u,t,h,hu=>by
  have e:t++(x::u).toArray=t++#[x]++u.toArray:=by simp
  rw[e];exact Mid.comms hd hk0 hc (h.ab0 hd hk0 hc (hu x (by simp))) fun op hop=>hu op (by simp[hop])
theorem Mid.adg(h:Mid (XL S X) (YL S c R) k B t)(hd:Dis c X R)(hk0:k≠0)(hc:c<B){u:Trace}(hu:∀ op∈u,Comm k c op):Mid (XL S X) (YL S c R) k B (t++u):=by
 obtain⟨l⟩:=u;exact Mid.comms hd hk0 hc h fun op hop=>hu op (by simpa using hop)
theorem Mid.mute(h:Mid (XL S X) (YL S c R) k B t){g:Nat}(hg:g≠0)(hgk:g≠k){fn:FuncId}{pos:String}{es:Array Event}(hm:∀ e∈es,e.mute=true):Mid (XL S X) (YL S c R) k B (t++MemOp.ofEvents g fn pos es) :=h.appMute hg hgk (fun op hop=>by obtain⟨e,_,rfl⟩:=Go.Conc.mem_ofEvents hop;rfl) (fun op hop=>by obtain⟨e,he,rfl⟩:=Go.Conc.mem_ofEvents hop;exact touch_mute (hm e he)) (fun op hop=>by obtain⟨e,he,rfl⟩:=Go.Conc.mem_ofEvents hop;exact low_mute (hm e he) B)
theorem XL.mono{X X':Nat->Prop}(h:∀ b,X b->X' b):∀ l x,XL S X l x->XL S X' l x:=fun l x ⟨b,h1,h2⟩=>⟨b,h1,h2.imp (h b) id⟩
theorem YL.mono{R R':Nat->Nat->Prop}(h:∀ a b,R a b->R' a b):∀ l x,YL S c R l x->YL S c R' l x:=fun l x ⟨b,h1,h2⟩=>⟨b,h1,h2.imp (fun⟨a,h2,h3⟩=>⟨a,h a b h2,h3⟩) id⟩
end
theorem Gi{k c s r cap i j:Nat}(hi:i=0/\j=k\/i=k/\j=0)(f1 f2 f3 f4:FuncId)(p1 p2 p3 p4:String):∀ op∈(#[{g:=i,fn:=f1,pos:=p1,act:=.send c s},{g:=j,fn:=f2,pos:=p2,act:=.recv c r cap},{g:=i,fn:=f3,pos:=p3,act:=.sendDone c s},{g:=j,fn:=f4,pos:=p4,act:=.recvDone c r}]:Array MemOp),Comm k c op:=by
 intro op hop;simp only[qch,rD,xS,or_false] at hop;have h1:i=0\/i=k:=by omega
 have h2:j=0\/j=k:=by omega
 rcases hop with rfl|rfl|rfl|rfl
 .exact⟨h1,.inl ⟨_,rfl⟩⟩
 .exact⟨h2,.inr (.inr (.inl ⟨_,_,rfl⟩))⟩
 .exact⟨h1,.inr (.inl ⟨_,rfl⟩)⟩
 .exact⟨h2,.inr (.inr (.inr (.inl ⟨_,rfl⟩)))⟩
section
variable (P:Program)(L:FuncId->Bool)(K:Op->Bool)(S:Nat->Prop)(c n0:Nat)(w0:World)(R0:Nat->Nat->Prop)(k:Nat)(z:Value)(Sh:Value->Prop)(Fin:List Value->(Nat->Prop)->Goroutine->World->Prop)(fU:List Value->World->Prop)
def RM:Nat->List Value->(Nat->Prop)->Goroutine->World->Prop
 | 0,acc,X,g,w=>∃ n,MG P S (fun X g w=>AtRecv P S c z X g w (Fin acc X (Go.Conc.served (core g) (.tuple #[z,.bool false])) w)) n X g w
 | m+1,acc,X,g,w=>∃ n,MG P S (fun X g w=>AtRecv P S c z X g w (∀ v,Sh v->RM m (acc++[v]) X (Go.Conc.served (core g) (.tuple #[v,.bool true])) w)) n X g w
def gZ:Nat->List Value->(Nat->Prop)->Goroutine->World->Prop
 | 0,acc=>fun X g w=>AtRecv P S c z X g w (Fin acc X (Go.Conc.served (core g) (.tuple #[z,.bool false])) w)
 | m+1,acc=>fun X g w=>AtRecv P S c z X g w (∀ v,Sh v->RM P S c z Sh Fin m (acc++[v]) X (Go.Conc.served (core g) (.tuple #[v,.bool true])) w)
theorem Dk(m:Nat)(acc:List Value)(X:Nat->Prop)(g:Goroutine)(w:World):RM P S c z Sh Fin m acc X g w↔∃ n,MG P S (gZ P S c z Sh Fin m acc) n X g w:=by cases m <;> exact Iff.rfl
def abQ(fr:Frame)(cs:List Frame)(w:World)(v π:Value):Prop :=dS P L false fr/\cs≠[]/\∃ μ es,stepG P false (G fr cs) w=.comm (G fr cs) #[scase c v μ,rcaseNil π] true .select w es/\∀ e∈es,Qt S e
def AtShut(g:Goroutine):Prop :=g.status=.running/\mayWake P g=true/\∃ ξ n,(∀ w s r tm,w.heap[c]? = some (.chan 0 #[] false s r tm)->stepG P false g w=.go ξ (w.setChan c 0 #[] true s r tm) #[⟨.obj c,false,true⟩,⟨.obj c,true,true⟩])/\QuitsIn P n ξ
def Closing(fr:Frame)(cs:List Frame):Prop:=∀ R aB χ,SL P R L K false O0 [] [] fr cs aB χ->AtShut P c (G aB χ)
def WS:Nat->List Value->Frame->List Frame->World->Prop
 | 0,vs,fr,cs,w=>GW P L S (fun fr cs w=>Closing P L K c fr cs/\fU vs w) fr cs w
 | m+1,vs,fr,cs,w=>GW P L S (fun fr cs w=>∃ v π,abQ P L S c fr cs w v π/\Sh v/\WS m (vs++[v]) (fr.finish (.tuple #[goInt 0,.bool false,π])) cs w) fr cs w
def qY:Nat->List Value->Frame->List Frame->World->Prop
 | 0,vs=>fun fr cs w=>Closing P L K c fr cs/\fU vs w
 | m+1,vs=>fun fr cs w=>∃ v π,abQ P L S c fr cs w v π/\Sh v/\WS P L K S c Sh fU m (vs++[v]) (fr.finish (.tuple #[goInt 0,.bool false,π])) cs w
theorem gT(m:Nat)(vs:List Value)(fr:Frame)(cs:List Frame)(w:World):WS P L K S c Sh fU m vs fr cs w↔GW P L S (qY P L K S c Sh fU m vs) fr cs w:=by cases m <;> exact Iff.rfl
def MS(m:Nat)(acc:List Value)(X:Nat->Prop)(a:Goroutine)(w:World)(ρ:Nat):Prop :=(∃ n,ρ=n+1/\MG P S (gZ P S c z Sh Fin m acc) n X a w)\/(ρ=0/\∃ g,a=parked (core g) #[rcase c z] (.recv true)/\∀ ω,Rel S X w ω->gZ P S c z Sh Fin m acc X g ω)
def WR(m:Machine)(t:Trace):Prop :=∃ (gs:Array Goroutine)(a:Goroutine)(w:World)(sl:Option (Nat×Nat))(q:Nat->Nat)(B:Nat)(X:Nat->Prop)(R:Nat->Nat->Prop)(wg:World)(vs acc:List Value),
  m=crowd gs w sl/\gs[0]? = some a/\Fin acc X a w/\fU vs wg/\LV R L vs acc/\GB P R/\FZ R wg.heap.size w.heap.size/\HR R L wg.heap w.heap/\Own2 L S c n0 w0 R0 R X w/\Leavers P t gs q/\Past Ai B t/\w.heap.size<=B
def Fb(m:Machine)(t:Trace):Prop:=∃ N m' t',runNT P N m t=(.next m',t')/\WR P L S c n0 w0 R0 Fin fU m' t'
end
section
variable {P:Program}{L:FuncId->Bool}{K:Op->Bool}{S:Nat->Prop}{c n0:Nat}{w0:World}{R0:Nat->Nat->Prop}{k:Nat}{z:Value}{Sh:Value->Prop}{Fin:List Value->(Nat->Prop)->Goroutine->World->Prop}{fU:List Value->World->Prop}
variable {gs:Array Goroutine}{a b:Goroutine}{w:World}{sl:Option (Nat×Nat)}{t:Trace}{q:Nat->Nat}{B m ρ:Nat}{X:Nat->Prop}{R:Nat->Nat->Prop}{vs acc:List Value}{s r:Nat}{tm:Bool}
theorem gZ.running{g:Goroutine}(h:gZ P S c z Sh Fin m acc X g w):g.status=.running:=by cases m <;> exact h.1
theorem gZ.comm{g:Goroutine}(h:gZ P S c z Sh Fin m acc X g w):∃ es,stepG P true g w=.comm (core g) #[rcase c z] true (.recv true) w es/\∀ e∈es,EvX X S w.heap.size e:=by cases m <;> exact h.2.1
theorem gZ.again{g:Goroutine}(h:gZ P S c z Sh Fin m acc X g w):gZ P S c z Sh Fin m acc X {parked (core g) #[rcase c z] (.recv true) with status:=.running} w:=by
 have e:stepG P true {parked (core g) #[rcase c z] (.recv true) with status:=.running} w=stepG P true g w:=stepG_same rfl rfl rfl w
 cases m <;> exact⟨rfl,by obtain⟨es,h1,h2⟩:=h.2.1;exact⟨es,by rw[e];exact h1,h2⟩,h.2.2⟩
theorem MS.rely{ω:World}(h:MS P S c z Sh Fin m acc X a w ρ)(hr:Rel S X w ω):MS P S c z Sh Fin m acc X a ω ρ:=by
 rcases h with⟨n,e,hg⟩|⟨e,g,ea,hs⟩
 .exact .inl ⟨n,e,hg.rely hr⟩
 .exact .inr ⟨e,g,ea,fun ψ Ξ=>hs ψ (hr.trans Ξ)⟩
theorem MS.status(h:MS P S c z Sh Fin m acc X a w ρ):(a.status=.running/\0<ρ)\/(a.status=.blocked/\ρ=0):=by
 rcases h with⟨n,e,hg⟩|⟨e,g,rfl,_⟩
 .exact .inl ⟨hg.running (fun _ _ _=>gZ.running),by omega⟩
 .exact .inr ⟨rfl,e⟩
theorem MS.woken{g g':Goroutine}{w':World}(h:MS P S c z Sh Fin m acc X a w ρ){cap s r:Nat}{buf:Array Value}{tm:Bool}(hc:w'.heap[c]? = some (.chan cap buf false s r tm)):woken P g g' w' a=a:=by
 rcases h with⟨n,e,hg⟩|⟨e,g,rfl,_⟩
 .exact woken_running (hg.running (fun _ _ _=>gZ.running))
 .exact woken_recv_open _ _ hc
theorem Fb.step{m m1:Machine}{ops:Array MemOp}(hs:stepT P m=(.next m1,ops))(h:Fb P L S c n0 w0 R0 Fin fU m1 (t++ops)):Fb P L S c n0 w0 R0 Fin fU m t:=by
 obtain⟨N,m',t',hr,hd⟩:=h;exact⟨N+1,m',t',by simp only[runNT,hs];exact hr,hd⟩
theorem Jl(hX:¬ X c)(hS:¬ S c)(w:World)(cap:Nat)(buf:Array Value)(cl:Bool)(s r:Nat)(tm:Bool):Rel S X w (w.setChan c cap buf cl s r tm) :=⟨fun b hb=>by simp only[World.setChan];rw[ow (fun e:c=b=>hX (by rw[e];exact hb))],fun b hb=>by simp only[World.setChan];rw[ow (fun e:c=b=>hS (by rw[e];exact hb))],by rw[size_setChan];exact aY _,rfl,rfl,rfl⟩
theorem Own2.set(ho:Own2 L S c n0 w0 R0 R X w)(cap:Nat)(buf:Array Value)(cl:Bool)(s r:Nat)(tm:Bool):Own2 L S c n0 w0 R0 R X (w.setChan c cap buf cl s r tm) :=⟨ho.cR,ho.cX,ho.Af,fun b hb=>by rw[size_setChan];exact ho.own b hb,fun b hb hn hc=>by simp only[World.setChan];rw[ow (Ao hc)];exact ho.frame b hb hn hc,ho.os,ho.out,ho.tape,ho.sup,by rw[size_setChan];exact ho.E8,by rw[size_setChan];exact ho.Zz,ho.sid,ho.slt,ho.low,ho.ss,ho.oq⟩
theorem heap_set{wg:World}(hh:HR R L wg.heap w.heap)(hb:FZ R wg.heap.size w.heap.size)(ho:Own2 L S c n0 w0 R0 R X w){s0 r0:Nat}{tm0:Bool}{ael:Array Value}{cl0:Bool}{cap0:Nat}(hc0:w.heap[c]? = some (.chan cap0 ael cl0 s0 r0 tm0))(cap:Nat)(buf:Array Value)(cl:Bool)(s r:Nat)(tm:Bool):HR R L wg.heap (w.setChan c cap buf cl s r tm).heap/\FZ R wg.heap.size (w.setChan c cap buf cl s r tm).heap.size:=by
 refine⟨⟨fun a b hab=>?_,fun b Zh=>?_,hh.Af⟩,by rw[size_setChan];exact hb⟩
 .simp only[World.setChan];rw[ow (fun e:c=b=>ho.cR a (by rw[e];exact hab))];exact hh a b hab
 .obtain⟨x,e,h2,h3⟩:=hh.opq b Zh;refine⟨x,e,h2,?_⟩;simp only[World.setChan];rw[ow (fun e:c=b=>by rw[e,h3] at hc0;cases hc0)];exact h3
theorem RG.set{fr aB:Frame}{cs χ:List Frame}{wg:World}(h:RG P L K R fr cs wg aB χ w)(ho:Own2 L S c n0 w0 R0 R X w){s0 r0:Nat}{tm0:Bool}{ael:Array Value}{cl0:Bool}{cap0:Nat}(hc0:w.heap[c]? = some (.chan cap0 ael cl0 s0 r0 tm0))(cap:Nat)(buf:Array Value)(cl:Bool)(s r:Nat)(tm:Bool):RG P L K R fr cs wg aB χ (w.setChan c cap buf cl s r tm) :=⟨h.gb,(heap_set h.heap h.bnd ho hc0 cap buf cl s r tm).2,(heap_set h.heap h.bnd ho hc0 cap buf cl s r tm).1,h.sl⟩
theorem LV.append{x y:List Value}{v u:Value}(h:LV R L x y)(hv:VR R L v u):LV R L (x++[v]) (y++[u]):=LV.app h (.cons hv .nil)
theorem LV.mono{R':Nat->Nat->Prop}(hR:∀ a b,R a b->R' a b){x y:List Value}(h:LV R L x y):LV R' L x y:=by
 induction h with
 | nil=>exact .nil
 | cons h _ ih=>exact .cons (h.mono hR) ih
theorem Yc{wg:World}(hR:GB P R)(hFG:fU vs wg):∀ (M:Nat){gs:Array Goroutine}{a b:Goroutine}{w:World}{sl:Option (Nat×Nat)}{t:Trace}{q:Nat->Nat}{B:Nat}{X:Nat->Prop}{na nb pc s r:Nat}{tm:Bool},
  na+nb+sumTo k q=M->jV P t gs k q->gs[0]? = some a->gs[k]? = some b->w.heap[c]? = some (.chan 0 #[] true s r tm)->FZ R wg.heap.size w.heap.size->HR R L wg.heap w.heap->Own2 L S c n0 w0 R0 R X w->LV R L vs acc ->
  MG P S (gZ P S c z Sh Fin 0 acc) na X a w->QuitsIn P nb b->Mid (XL S X) (YL S c R) k B t->Shut k c pc t->w.heap.size<=B->Fb P L S c n0 w0 R0 Fin fU (crowd gs w sl) t:=by
 intro M
 induction M using Nat.strongRecOn with
 | _ M Qw =>
 intro gs a b w sl t q B X na nb pc s r tm hM fH ha hb hc hbd hh ho hlv sa sb mid sh hB;have hk0:k≠0:=by have:=fH.pos;omega
 have Q9:a.status=.running:=sa.running (fun _ _ _=>gZ.running);have haw:=fH.awake ha hb (.inl Q9) (sb.status.elim .inl fun x=>.inr (.inr x));obtain⟨i,g,d,sl',hi,hg,hst⟩:=crowd_pick (P:=P) (w:=w) (sl:=sl) haw ⟨0,a,ha,Q9⟩;have U8:=sa.rely (Rel.at S X w d);have hod:=ho.at d;have hcd:(w.at d).heap[c]? = some (.chan 0 #[] true s r tm):=hc;rcases UZ i with rfl|hp
 .rw[ha] at hi;cases hi
  rcases U8.cases with hstop|⟨n',rfl,hr,hstep⟩
  .
   have hs:=hstop (w.at d) (Rel.refl S X _);obtain⟨es,hcomm,hes⟩:=hs.comm;have hbn:∀ s,offersAt b c s=[]:=fun s=>offersAt_of_not_blocked (by rcases sb.status with x|x <;> rw[x] <;> simp) c s
   have hpn:partners (gs.setIfInBounds 0 ph) c true=[]:=fH.partners_nil ha hb (fun h=>absurd rfl h) fun _=>hbn _
   have hcB:c<B:=Cc.adA hc hB;have hmid:=mid.Zb (fn:=a.frame.fn) (pos:=a.frame.place) ho.Vv hk0 (n:=w.heap.size) hB hes;have hrunT:=crowd_recv_closed (sl:=sl') ha (show stepG P (0==0) a (w.at d)=_ from hcomm) hcd hpn;rw[show(core a).finishComm P #[rcase c z] (.recv true) 0 z false=Go.Conc.served (core a) (.tuple #[z,.bool false]) from finishComm_recv P _ _ true 0 z false] at hrunT;have hsh:Shut k c pc (t++MemOp.ofEvents 0 a.frame.fn a.frame.place es):=sh.app fun op hop hg=>by obtain⟨e,_,rfl⟩:=Go.Conc.mem_ofEvents hop;exact absurd hg (by simpa using hk0.symm)
   have hpast:=hmid.past (yO ho.Vv) hk0 hsh (y:={g:=0,fn:=(core a).frame.fn,pos:=(core a).frame.place,act:=.recvClosed c}) rfl rfl hcB;have hdeaf:∀ j,j≠0->Deaf (t++(MemOp.ofEvents 0 a.frame.fn a.frame.place es++#[{g:=0,fn:=(core a).frame.fn,pos:=(core a).frame.place,act:=.recvClosed c}])) j=Deaf t j:=fun j hj=>by
    refine Deaf_other t (g':=0) (Ao hj) _ fun op hop=>?_
    rcases Array.mem_append.1 hop with h|h
    .obtain⟨e,_,rfl⟩:=Go.Conc.mem_ofEvents h;rfl
    .simp at h;subst h;rfl
   refine Fb.step (hst.trans hrunT) ⟨0,_,_,rfl,_,Go.Conc.served (core a) (.tuple #[z,.bool false]),w.at d,sl',upd q k nb,B,X,R,wg,vs,acc,rfl,Cc.pE fH.size,hs.2.2,hFG,hlv,hR,hbd,hh,hod,⟨fun i g h0 hi=>?_,fun j hj=>?_⟩,by rw[<-qbF];exact hpast,hB⟩
   .rw[hdeaf i (by omega)];rw[ow (by omega)] at hi;by_cases hik:i=k
    .subst hik;rw[hb] at hi;cases hi
     rw[upd_same,mid.zw];exact QuitsD.of_quitsIn sb
    .rw[upd_ne q nb hik];exact fH.old i g h0 (by have:=(fT.1 hi).1;have:=fH.size;omega) hi
   .have hj':k+1<=j:=by simpa[fH.size] using hj
    rw[hdeaf j (by omega)];exact fH.above j (by omega)
  .obtain⟨a',w',es,X',hgo,hown,hG⟩:=hstep (w.at d) (Rel.refl S X _);have hm:=zC (w:=w.at d) hbd hh hod hown;have hm2:=hod.main (wg:=wg) hbd hown;have hrunT:=runT_crowd_go (P:=P) (sl:=sl') (i:=0) ha (show stepG P (0==0) a (w.at d)=_ from hgo);refine Fb.step (hst.trans hrunT) (Qw (n'+nb+sumTo k q) (by omega) (a:=a') (b:=b) (q:=q) (B:=max B w'.heap.size) (X:=X') (na:=n') (nb:=nb) (pc:=pc) (s:=s) (r:=r) (tm:=tm) rfl (fH.own (.inl rfl) a a' a' w' _ _ es) (Cc.pE (k:=k) (by simp[fH.size])) ?_ (hm2.2.trans hcd) hm.2 hm.1 hm2.1 hlv hG sb
    ((mid.mono (Z5 _ _) (XL.mono hown.sub) fun _ _ h=>h).Zb hm2.1.Vv hk0 (n:=w'.heap.size) (J9 _ _) hown.ev) (sh.app fun op hop hg=>by obtain⟨e,_,rfl⟩:=Go.Conc.mem_ofEvents hop;exact absurd hg (by simpa using hk0.symm)) (J9 _ _))
   rw[ow (by omega),JO,hb];simp[Cc.woken_quits sb]
 .by_cases hik:i=k
  .subst hik;rw[hb] at hi;cases hi
   have hkf:(i==0)=false:=by simp[hk0]
   cases nb with
   | zero=>have:b.status=.finished:=sb;rw[this] at hg;cases hg
   | succ nb =>
    rcases sb with h|⟨_,b',hstp,hq⟩
    .rw[h] at hg;cases hg
    have hrunT:=runT_crowd_go (P:=P) (sl:=sl') (i:=i) hb (by rw[hkf];exact hstp (w.at d));have hnil:MemOp.ofEvents i b.frame.fn b.frame.place #[]=#[]:=by rw[ofEvents_eq];simp
    refine Fb.step (hst.trans hrunT) (Qw (na+nb+sumTo i q) (by omega) (a:=a) (b:=b') (q:=q) (B:=B) (X:=X) (na:=na) (nb:=nb) (pc:=pc) (s:=s) (r:=r) (tm:=tm) rfl (fH.own (.inr rfl) b b' b' _ _ _ #[]) ?_ (Cc.pF (by simp[fH.size])) hcd hbd hh hod hlv U8 hq (by rw[hnil];simpa using mid) (by rw[hnil];simpa using sh) hB);rw[ow hk0,JO,ha];simp[woken_running Q9]
  .have hlt:i<k:=by have:=(fT.1 hi).1;have:=fH.size;omega
   obtain⟨m,g',es,hm,hsum,hrunT,Y4⟩:=Cc.Qs fH hp hlt hi hg;refine Fb.step (hst.trans (hrunT (w.at d) sl')) (Qw (na+nb+sumTo k (upd q i m)) (by omega) (a:=a) (b:=b) (q:=upd q i m) (B:=B) (X:=X) (na:=na) (nb:=nb) (pc:=pc) (s:=s) (r:=r) (tm:=tm) rfl (Y4 (w.at d)) ?_ ?_ hcd hbd hh hod hlv U8 sb (mid.mute (by omega) (by omega) hm) (Cc.SY sh fun op hop=>by obtain⟨e,he,rfl⟩:=Go.Conc.mem_ofEvents hop;exact touch_mute (hm e he)) hB)
   .rw[ow (by omega),JO,ha];simp[woken_running Q9]
   .rw[ow (by omega),JO,hb];simp[Cc.woken_quits sb]
end
end Sr
end
section
open Go.Conc
open Go.ConcN (sumTo upd sumTo_upd upd_ne upd_same)
open Cc (tp Ai jV Shut Comm heard_new lI)
namespace Sr
section
variable (P:Program)(L:FuncId->Bool)(K:Op->Bool)(S:Nat->Prop)(c n0:Nat)(w0:World)(R0:Nat->Nat->Prop)(k:Nat)
structure Open(gs:Array Goroutine)(a b:Goroutine)(w:World)(t:Trace)(q:Nat->Nat)(B:Nat)(X:Nat->Prop)(R:Nat->Nat->Prop)(fr:Frame)(cs:List Frame)(wg:World)(aB:Frame)(χ:List Frame)(vs acc:List Value)(s r:Nat)(tm:Bool):Prop where
 fH:jV P t gs k q
 ha:gs[0]? = some a
 hb:gs[k]? = some b
 hc:w.heap[c]? = some (.chan 0 #[] false s r tm)
 rg:RG P L K R fr cs wg aB χ w
 own:Own2 L S c n0 w0 R0 R X w
 lv:LV R L vs acc
 mid:Mid (XL S X) (YL S c R) k B t
 hB:w.heap.size<=B
end
section
variable {P:Program}{L:FuncId->Bool}{K:Op->Bool}{S:Nat->Prop}{c n0:Nat}{w0:World}{R0:Nat->Nat->Prop}{k:Nat}{z:Value}{Sh:Value->Prop}{Fin:List Value->(Nat->Prop)->Goroutine->World->Prop}{fU:List Value->World->Prop}
variable {gs:Array Goroutine}{a b:Goroutine}{w:World}{sl:Option (Nat×Nat)}{t:Trace}{q:Nat->Nat}{B m ρ:Nat}{X:Nat->Prop}{R:Nat->Nat->Prop}{vs acc:List Value}{s r:Nat}{tm:Bool}{fr aB:Frame}{cs χ:List Frame}{wg:World}
theorem Open.k0(h:Open P L K S c n0 w0 R0 k gs a b w t q B X R fr cs wg aB χ vs acc s r tm):k≠0:=by have:=h.fH.pos;omega
theorem Open.at(h:Open P L K S c n0 w0 R0 k gs a b w t q B X R fr cs wg aB χ vs acc s r tm)(d:Nat):Open P L K S c n0 w0 R0 k gs a b (w.at d) t q B X R fr cs wg aB χ vs acc s r tm :=⟨h.fH,h.ha,h.hb,h.hc,h.rg.at d,h.own.at d,h.lv,h.mid,h.hB⟩
theorem Open.main(h:Open P L K S c n0 w0 R0 k gs a b w t q B X R fr cs wg aB χ vs acc s r tm){a':Goroutine}{w':World}{es:Array Event}{X':Nat->Prop}(hown:iw S X w w' es X')(hwk:(w'.heap[c]? = some (.chan 0 #[] false s r tm))->woken P a a' w' b=b):Open P L K S c n0 w0 R0 k ((gs.map (woken P a a' w')).setIfInBounds 0 a') a' b w' (t++MemOp.ofEvents 0 a.frame.fn a.frame.place es) q (max B w'.heap.size) X' R fr cs wg aB χ vs acc s r tm:=by
 have hm2:=h.own.main (wg:=wg) h.rg.bnd hown;have hc':=hm2.2.trans h.hc;refine⟨h.fH.own (.inl rfl) a a' a' w' _ _ es,Cc.pE (k:=k) (by simp[h.fH.size]),?_,hc',h.rg.main h.own hown,hm2.1,h.lv,(h.mid.mono (Z5 _ _) (XL.mono hown.sub) fun _ _ h=>h).Zb hm2.1.Vv h.k0 (n:=w'.heap.size) (J9 _ _) hown.ev,J9 _ _⟩;have:=h.k0;rw[ow (by omega),JO,h.hb];simp[hwk hc']
theorem Open.slip(h:Open P L K S c n0 w0 R0 k gs a b w t q B X R fr cs wg aB χ vs acc s r tm){i:Nat}{g:Goroutine}(h0:0<i)(hik:i≠k)(hi:gs[i]? = some g)(hr:g.status=.running)(hwa:∀ g',woken P g g' w a=a)(hwb:∀ g',woken P g g' w b=b):∃ q' gs' t' ,sumTo k q'+1=sumTo k q/\(∃ ops,t'=t++ops/\∀ sl,runT P (crowd gs w sl) i=(.next (crowd gs' w sl),ops))/\Open P L K S c n0 w0 R0 k gs' a b w t' q' B X R fr cs wg aB χ vs acc s r tm:=by
 have hlt:i<k:=by have:=(fT.1 hi).1;have:=h.fH.size;omega
 obtain⟨m,g',es,hm,hsum,hrunT,Y4⟩:=Cc.Qs h.fH h0 hlt hi hr;refine⟨upd q i m,_,_,hsum,⟨_,rfl,fun sl=>hrunT w sl⟩,Y4 w,?_,?_,h.hc,h.rg,h.own,h.lv,h.mid.mute (by omega) hik hm,h.hB⟩
 .rw[ow (by omega),JO,h.ha];simp[hwa]
 .rw[ow hik,JO,h.hb];simp[hwb]
theorem afh{Φ:Frame->List Frame->World->Prop}(hK:vB P L K)(hL:∀ f,L f=true->fK P f)(hWk:∀ (fr:Frame)(cs:List Frame)(wg:World),(∀ τ d,Φ fr cs (tp wg τ d))->∀ (gs:Array Goroutine)(a:Goroutine)(w:World)(sl:Option (Nat×Nat))(t:Trace)(q:Nat->Nat)(B:Nat)(X:Nat->Prop)(R:Nat->Nat->Prop)(aB:Frame)(χ:List Frame)(s r:Nat)(tm:Bool)(ρ:Nat),
   Open P L K S c n0 w0 R0 k gs a (G aB χ) w t q B X R fr cs wg aB χ vs acc s r tm->MS P S c z Sh Fin m acc X a w ρ->∃ m1 ops,runT P (crowd gs w sl) k=(.next m1,ops)/\Fb P L S c n0 w0 R0 Fin fU m1 (t++ops))
  (h:GW P L S Φ fr cs wg):∀ (M:Nat)(gs:Array Goroutine)(a:Goroutine)(w:World)(sl:Option (Nat×Nat))(t:Trace)(q:Nat->Nat)(B:Nat)(X:Nat->Prop)(R:Nat->Nat->Prop)(aB:Frame)(χ:List Frame)(s r:Nat)(tm:Bool)(ρ:Nat),
   ρ+sumTo k q=M->Open P L K S c n0 w0 R0 k gs a (G aB χ) w t q B X R fr cs wg aB χ vs acc s r tm->MS P S c z Sh Fin m acc X a w ρ->Fb P L S c n0 w0 R0 Fin fU (crowd gs w sl) t:=by
 have step:∀ (fr:Frame)(cs:List Frame)(wg:World),
   (∀ (gs:Array Goroutine)(a:Goroutine)(w:World)(sl:Option (Nat×Nat))(t:Trace)(q:Nat->Nat)(B:Nat)(X:Nat->Prop)(R:Nat->Nat->Prop)(aB:Frame)(χ:List Frame)(s r:Nat)(tm:Bool)(ρ:Nat),
    Open P L K S c n0 w0 R0 k gs a (G aB χ) w t q B X R fr cs wg aB χ vs acc s r tm->MS P S c z Sh Fin m acc X a w ρ->∃ m1 ops,runT P (crowd gs w sl) k=(.next m1,ops)/\Fb P L S c n0 w0 R0 Fin fU m1 (t++ops)) ->
   ∀ (M:Nat)(gs:Array Goroutine)(a:Goroutine)(w:World)(sl:Option (Nat×Nat))(t:Trace)(q:Nat->Nat)(B:Nat)(X:Nat->Prop)(R:Nat->Nat->Prop)(aB:Frame)(χ:List Frame)(s r:Nat)(tm:Bool)(ρ:Nat),
    ρ+sumTo k q=M->Open P L K S c n0 w0 R0 k gs a (G aB χ) w t q B X R fr cs wg aB χ vs acc s r tm->MS P S c z Sh Fin m acc X a w ρ->Fb P L S c n0 w0 R0 Fin fU (crowd gs w sl) t:=by
  intro fr cs wg af2 M
  induction M using Nat.strongRecOn with
  | _ M Qw =>
  intro gs a w sl t q B X R aB χ s r tm ρ hM ho sa;have hk0:=ho.k0;have haw:=ho.fH.awake ho.ha ho.hb (sa.status.elim (fun x=>.inl x.1) fun x=>.inr (.inl x.1)) (.inl rfl);obtain⟨i,g,d,sl',hi,hg,hst⟩:=crowd_pick (P:=P) (w:=w) (sl:=sl) haw ⟨k,_,ho.hb,rfl⟩;have U8:=sa.rely (Rel.at S X w d);have hod:=ho.at d;rcases UZ i with rfl|hp
  .rw[ho.ha] at hi;cases hi
   rcases U8 with⟨n,rfl,hG⟩|⟨_,g',rfl,_⟩
   .rcases hG.cases with hstop|⟨n',rfl,hr,hstep⟩
    .
     have hs:=hstop (w.at d) (Rel.refl S X _);obtain⟨es,hcomm,hes⟩:=hs.comm;have hpn:partners (gs.setIfInBounds 0 ph) c true=[]:=ho.fH.partners_nil ho.ha ho.hb (fun h=>absurd rfl h) fun _=>offersAt_of_not_blocked (by simp[G]) c true
     have hrunT:=crowd_waits (sl:=sl') ho.ha (show stepG P (0==0) a (w.at d)=_ from hcomm) (fun cc hcc=>by simp at hcc;subst hcc;exact ways_recv_none hod.hc hpn);refine Fb.step (hst.trans hrunT) (Qw (0+sumTo k q) (by omega) _ (parked (core a) #[rcase c z] (.recv true)) (w.at d) sl' _ q B X R aB χ s r tm 0 rfl ⟨?_,Cc.pE ho.fH.size,?_,hod.hc,hod.rg,hod.own,ho.lv,ho.mid.Zb ho.own.Vv hk0 (n:=w.heap.size) ho.hB hes,ho.hB⟩ (.inr ⟨rfl,a,rfl,fun ω θ=>hstop ω θ⟩))
     .have:=ho.fH.comm (c:=c) (i:=0) (.inl rfl) (gs':=gs.setIfInBounds 0 (parked (core a) #[rcase c z] (.recv true))) (by simp) (fun j h0 _=>by rw[ow (by omega)]) (fn:=a.frame.fn) (pos:=a.frame.place) (es:=es) (u:=#[]) (by simp);simpa using this
     .rw[ow (by omega)];exact ho.hb
    .obtain⟨a',w',es,X',hgo,hown,hG'⟩:=hstep (w.at d) (Rel.refl S X _);have hrunT:=runT_crowd_go (P:=P) (sl:=sl') (i:=0) ho.ha (show stepG P (0==0) a (w.at d)=_ from hgo);exact Fb.step (hst.trans hrunT) (Qw (n'+1+sumTo k q) (by omega) _ a' w' sl' _ q _ X' R aB χ s r tm (n'+1) rfl (hod.main hown fun _=>woken_running rfl) (.inl ⟨n',rfl,hG'⟩))
   .cases hg
  .by_cases hik:i=k
   .subst hik;rw[ho.hb] at hi;cases hi
    obtain⟨m1,ops,h1,h2⟩:=af2 gs a (w.at d) sl' t q B X R aB χ s r tm ρ hod U8;exact Fb.step (hst.trans h1) h2
   .obtain⟨q',gs',t',hsum,⟨ops,rfl,hrunT⟩,ho'⟩:=hod.slip hp hik hi hg (fun g'=>U8.woken hod.hc) (fun g'=>woken_running rfl);exact Fb.step (hst.trans (hrunT sl')) (Qw (ρ+sumTo k q') (by omega) gs' a (w.at d) sl' _ q' B X R aB χ s r tm ρ rfl ho' U8)
 induction h with
 | @stop fr cs wg h=>exact step fr cs wg (fun gs a w sl t q B X R aB χ s r tm ρ ho sa=>hWk fr cs wg h gs a w sl t q B X R aB χ s r tm ρ ho sa)
 | @step fr cs wg hn hne fr' cs' IQ es h hq ht ih =>
  refine step fr cs wg fun gs a w sl t q B X R aB χ s r tm ρ ho sa=>?_
  have hk0:=ho.k0;have hkf:(k==0)=false:=by simp[hk0]
  obtain⟨bC,dA,w',η,R',hgo,hrg,hW⟩:=Sk hK hL ho.rg ho.own hn hne (h (fun j=>w.tape (w.drawn+j)) 0) (hq (fun j=>w.tape (w.drawn+j)) 0);have hrunT:=runT_crowd_go (P:=P) (sl:=sl) (i:=k) ho.hb (by rw[hkf];exact hgo);refine⟨_,_,hrunT,ih (fun j=>w.tape (w.drawn+j)) 0 (ρ+sumTo k q) _ a w' sl _ q (max B w'.heap.size) X R' bC dA s r tm ρ rfl ⟨ho.fH.own (.inr rfl) _ _ _ w' _ _ η,?_,Cc.pF (by simp[ho.fH.size]),hW.chan.trans ho.hc,hrg,hW.own,ho.lv.mono hW.sup,(ho.mid.mono (Z5 _ _) (fun _ _ h=>h) (YL.mono hW.sup)).afP hW.own.Vv hk0 (n:=w'.heap.size) (J9 _ _) hW.ev,J9 _ _⟩ (sa.rely hW.rel)⟩;rw[ow hk0,JO,ho.ha];simp[sa.woken (hW.chan.trans ho.hc)]
theorem YG{c:Nat}{ν μ π:Value}:commResult #[scase c ν μ,rcaseNil π] .select 0 au false=.tuple #[goInt 0,.bool false,π]:=by
 simp[commResult,scase,rcaseNil]
def QD(P:Program)(L:FuncId->Bool)(K:Op->Bool)(S:Nat->Prop)(c n0:Nat)(w0:World)(R0:Nat->Nat->Prop)(k:Nat)(z:Value)(Sh:Value->Prop)(Fin:List Value->(Nat->Prop)->Goroutine->World->Prop)(fU:List Value->World->Prop)(m:Nat):Prop :=∀ (vs acc:List Value)(fr:Frame)(cs:List Frame)(wg:World)(gs:Array Goroutine)(a:Goroutine)(w:World)(sl:Option (Nat×Nat))(t:Trace)(q:Nat->Nat)(B:Nat)(X:Nat->Prop)(R:Nat->Nat->Prop)(aB:Frame)(χ:List Frame)(s r:Nat)(tm:Bool)(ρ:Nat),
  Open P L K S c n0 w0 R0 k gs a (G aB χ) w t q B X R fr cs wg aB χ vs acc s r tm->MS P S c z Sh Fin m acc X a w ρ->WS P L K S c Sh fU m vs fr cs wg->Fb P L S c n0 w0 R0 Fin fU (crowd gs w sl) t
theorem aeh{R:Nat->Nat->Prop}{v μ π:Value}{y:Array CommCase}(h:CV R L #[scase c v μ,rcaseNil π] y):∃ ν D6 eY,y=#[scase c ν D6,rcaseNil eY]/\VR R L v ν/\VR R L π eY:=by
 obtain⟨hs,hv⟩:=h;have h2:y.size=2:=by simpa using hs.symm
 have e0:y[0]? = some y[0]:=mJ (by omega);have e1:y[1]? = some y[1]:=mJ (by omega);have a0:=hv 0 (scase c v μ) y[0] rfl e0;have a1:=hv 1 (rcaseNil π) y[1] rfl e1;have hy:y=#[y[0],y[1]]:=by
  apply TS
  .simp[h2]
  .intro i h1 h3;have:i=0\/i=1:=by omega
   rcases this with rfl|rfl <;> rfl
 rw[hy];generalize y[0]=p at a0;generalize y[1]=o at a1;obtain⟨pc,ps,pz⟩:=p;obtain⟨oc,os,oz⟩:=o;obtain⟨b1,b2,b3⟩:=a0;obtain⟨d1,d2,d3⟩:=a1;simp only[scase,rcaseNil] at b1 b2 b3 d1 d2 d3
 cases b1
 cases d1
 cases d2
 cases b2 with
 | some hvv=>exact⟨_,_,_,rfl,hvv,d3⟩
theorem Open.meet(h:Open P L K S c n0 w0 R0 k gs a b w t q B X R fr cs wg aB χ vs acc s r tm){v ν π eY:Value}(hv:VR R L v ν)(hz:VR R L π eY){gs':Array Goroutine}{a':Goroutine}(hs:gs'.size=gs.size)(hg:∀ j,0<j->j<k->gs'[j]? = gs[j]?)(h0:gs'[0]? = some a')(hk:gs'[k]? = some (G (aB.finish (.tuple #[goInt 0,.bool false,eY])) χ)){i:Nat}(hi:i=0\/i=k){fn:FuncId}{pos:String}{es:Array Event}{u:Trace}(hu:∀ op∈u,Comm k c op)(hmid:Mid (XL S X) (YL S c R) k B (t++MemOp.ofEvents i fn pos es)):Open P L K S c n0 w0 R0 k gs' a' (G (aB.finish (.tuple #[goInt 0,.bool false,eY])) χ) (w.setChan c 0 #[] false (s+1) (r+1) tm) (t++(MemOp.ofEvents i fn pos es++u)) q B X R (fr.finish (.tuple #[goInt 0,.bool false,π])) cs wg (aB.finish (.tuple #[goInt 0,.bool false,eY])) χ (vs++[v]) (acc++[ν]) (s+1) (r+1) tm:=by
 have hcB:c<B:=Cc.adA h.hc h.hB;have hrg:=h.rg.set h.own h.hc 0 #[] false (s+1) (r+1) tm
 refine⟨h.fH.comm hi hs hg hu,h0,hk,heap_put h.hc,⟨hrg.gb,hrg.bnd,hrg.heap,hrg.sl.finish (VR.q9 (AV.three (.int _ _) (.bool _) hz))⟩,h.own.set 0 #[] false (s+1) (r+1) tm,h.lv.append hv,?_,by rw[size_setChan];exact h.hB⟩;rw[<-qbF];exact hmid.adg h.own.Vv h.k0 hcB hu
theorem Qh(U2:∀ R v ν,VR R L v ν->Sh v->Sh ν)(hnext:QD P L K S c n0 w0 R0 k z Sh Fin fU m):∀ (M:Nat)(gs:Array Goroutine)(a:Goroutine)(w:World)(sl:Option (Nat×Nat))(t:Trace)(q:Nat->Nat)(B:Nat)(X:Nat->Prop)(n:Nat)(v ν μ π eY:Value),
  n+sumTo k q=M->Open P L K S c n0 w0 R0 k gs a (parked (G aB χ) #[scase c ν μ,rcaseNil eY] .select) w t q B X R fr cs wg aB χ vs acc s r tm->MG P S (gZ P S c z Sh Fin (m+1) acc) n X a w->VR R L v ν->VR R L π eY->Sh v ->
  WS P L K S c Sh fU m (vs++[v]) (fr.finish (.tuple #[goInt 0,.bool false,π])) cs wg->Fb P L S c n0 w0 R0 Fin fU (crowd gs w sl) t:=by
 intro M
 induction M using Nat.strongRecOn with
 | _ M Qw =>
 intro gs a w sl t q B X n v ν μ π eY hM ho sa hv hz hS hws;have hk0:=ho.k0;have har:a.status=.running:=sa.running (fun _ _ _=>gZ.running);have haw:=ho.fH.awake ho.ha ho.hb (.inl har) (.inr (.inl rfl));obtain⟨i,g,d,sl',hi,hg,hst⟩:=crowd_pick (P:=P) (w:=w) (sl:=sl) haw ⟨0,_,ho.ha,har⟩;have U8:=sa.rely (Rel.at S X w d);have hod:=ho.at d;have hwk:∀ {x y:Goroutine}{w':World},(w'.heap[c]? = some (.chan 0 #[] false s r tm))->woken P x y w' (parked (G aB χ) #[scase c ν μ,rcaseNil eY] .select)=parked (G aB χ) #[scase c ν μ,rcaseNil eY] .select:=by
  intro x y w' hc;unfold woken;split
  .refine ND fun cc hcc c' e=>?_
   simp only[qch,rD,xS,or_false] at hcc;rcases hcc with rfl|rfl
   .simp only[scase] at e
    cases e
    exact⟨_,_,_,_,_,hc⟩
   .simp only[rcaseNil] at e
    cases e
  .rfl
 rcases UZ i with rfl|hp
 .rw[ho.ha] at hi;cases hi
  rcases U8.cases with hstop|⟨n',rfl,hr,hstep⟩
  .have hs:=hstop (w.at d) (Rel.refl S X _);obtain⟨es,hcomm,hes⟩:=hs.comm;have hof:offersAt (parked (G aB χ) #[scase c ν μ,rcaseNil eY] .select) c true=[0]:=Kq (k:=0) (v:=ν) (z:=μ) rfl (fun j cc hj hcc=>by
    have:j<2:=(fT.1 hcc).1;have:j=1:=by omega
    subst this;simp at hcc;subst hcc;simp[rcaseNil])
   have hpn:partners (gs.setIfInBounds 0 ph) c true=[(k,0)]:=ho.fH.partners_one (.inl ⟨rfl,rfl⟩) ho.hb hof;have hrunT:=CF (sl:=sl') (k:=0) ho.ha (show stepG P (0==0) a (w.at d)=_ from hcomm) hod.hc hk0 ho.hb rfl hpn;rw[finishComm_recv] at hrunT;have hfin:(G aB χ).finishComm P #[scase c ν μ,rcaseNil eY] .select (0:Nat) au false=G (aB.finish (.tuple #[goInt 0,.bool false,eY])) χ:=by
    show({G aB χ with frame:=(G aB χ).frame.finish (commResult #[scase c ν μ,rcaseNil eY] .select 0 au false),status:=.running,offers:=none}:Goroutine)=_;rw[YG];rfl
   rw[hfin] at hrunT;have hmid:=ho.mid.Zb (fn:=a.frame.fn) (pos:=a.frame.place) ho.own.Vv hk0 (n:=w.heap.size) ho.hB hes;have hopen:=hod.meet hv hz (gs':=(gs.setIfInBounds k (G (aB.finish (.tuple #[goInt 0,.bool false,eY])) χ)).setIfInBounds 0 (Go.Conc.served (core a) (recvd true ν true))) (by simp) (fun j h0 hk=>by rw[ow (by omega),ow (by omega)])
    (Cc.pE (k:=k) (by simp[ho.fH.size])) (by rw[ow (by omega)];exact Cc.pF ho.fH.size) (.inl rfl) (Gi (c:=c) (k:=k) (s:=s) (r:=r) (cap:=0) (.inr ⟨rfl,rfl⟩) (G aB χ).frame.fn (core a).frame.fn (G aB χ).frame.fn (core a).frame.fn (G aB χ).frame.place (core a).frame.place (G aB χ).frame.place (core a).frame.place) hmid
   have hrm:=hs.2.2 ν (U2 R v ν hv hS);obtain⟨Γ,hn₁⟩:=(Dk ..).1 hrm;exact Fb.step (hst.trans hrunT) (hnext _ _ _ _ _ _ _ _ sl' _ _ _ _ _ _ _ _ _ _ (Γ+1) hopen (.inl ⟨Γ,rfl,hn₁.rely (Jl ho.own.cX ho.own.cS _ _ _ _ _ _ _)⟩) hws)
  .obtain⟨a',w',es,X',hgo,hown,hG'⟩:=hstep (w.at d) (Rel.refl S X _);have hrunT:=runT_crowd_go (P:=P) (sl:=sl') (i:=0) ho.ha (show stepG P (0==0) a (w.at d)=_ from hgo);exact Fb.step (hst.trans hrunT) (Qw (n'+sumTo k q) (by omega) _ a' w' sl' _ q _ X' n' v ν μ π eY rfl (hod.main hown hwk) hG' hv hz hS hws)
 .by_cases hik:i=k
  .subst hik;rw[ho.hb] at hi;cases hi
   cases hg
  .obtain⟨q',gs',t',hsum,⟨ops,rfl,hrunT⟩,ho'⟩:=hod.slip hp hik hi hg (fun g'=>woken_running har) (fun g'=>hwk hod.hc);exact Fb.step (hst.trans (hrunT sl')) (Qw (n+sumTo k q') (by omega) gs' a (w.at d) sl' _ q' B X n v ν μ π eY rfl ho' U8 hv hz hS hws)
theorem YO(hK:vB P L K)(hL:∀ f,L f=true->fK P f)(U2:∀ R v ν,VR R L v ν->Sh v->Sh ν):∀ m,QD P L K S c n0 w0 R0 k z Sh Fin fU m:=by
 intro m
 induction m with
 | zero =>
  intro vs acc fr cs wg gs a w sl t q B X R aB χ s r tm ρ ho sa hws;refine afh hK hL (fun fr cs wg hstop gs a w sl t q B X R aB χ s r tm ρ ho sa=>?_) ((gT ..).1 hws) _ gs a w sl t q B X R aB χ s r tm ρ rfl ho sa;have hk0:=ho.k0;have hkf:(k==0)=false:=by simp[hk0]
  have hst:=hstop w.tape 0;obtain⟨_,hmay,ξ,nq,hcl,hq⟩:=hst.1 R aB χ ho.rg.sl;have hgo:=hcl w s r tm ho.hc;have hrunT:=runT_crowd_go (P:=P) (sl:=sl) (i:=k) ho.hb (by rw[hkf];exact hgo);have hg2:ξ.status=.running\/ξ.status=.finished:=hq.status;have hc':(w.setChan c 0 #[] true s r tm).heap[c]? = some (.chan 0 #[] true s r tm):=heap_put ho.hc;have hrel:=Jl ho.own.cX ho.own.cS w 0 #[] true s r tm;have hcB:c<B:=Cc.adA ho.hc ho.hB;have hco:Comm k c {g:=k,fn:=aB.fn,pos:=aB.place,act:=.close c}:=⟨.inr rfl,.inr (.inr (.inr (.inr rfl)))⟩;have heq:t++MemOp.ofEvents k (G aB χ).frame.fn (G aB χ).frame.place #[⟨.obj c,false,true⟩,⟨.obj c,true,true⟩]=t++#[{g:=k,fn:=aB.fn,pos:=aB.place,act:=.access ⟨.obj c,false,true⟩}]++#[{g:=k,fn:=aB.fn,pos:=aB.place,act:=.close c}]:=by
   apply qcy;simp[ofEvents_eq,MemAct.ofEvent,G]
  have abZ:=ho.mid.adb (u:=#[{g:=k,fn:=aB.fn,pos:=aB.place,act:=.access ⟨.obj c,false,true⟩}]) (yO ho.own.Vv) hk0 (by simp) (by intro op hop b hb;simp at hop;subst hop;cases hb;exact⟨c,rfl,.inr ⟨rfl,rfl⟩⟩) (by rw[Deaf_push];rfl) (by intro op hop;simp at hop;subst hop;exact hcB);obtain⟨a',na,ha',hG⟩:∃ a' na,woken P (G aB χ) ξ (w.setChan c 0 #[] true s r tm) a=a'/\MG P S (gZ P S c z Sh Fin 0 acc) na X a' (w.setChan c 0 #[] true s r tm):=by
   rcases sa with⟨m',e,hg⟩|⟨e,g,rfl,hs⟩
   .exact⟨a,m',woken_running (hg.running (fun _ _ _=>gZ.running)),hg.rely hrel⟩
   .refine⟨{parked (core g) #[rcase c z] (.recv true) with status:=.running},0,?_,fun ω θ=>(hs ω (hrel.trans θ)).again⟩;unfold woken;rw[if_pos (by rcases hg2 with h|h <;> simp[hmay,h])];exact again_recv_closed hc'
  have hset:=heap_set ho.rg.heap ho.rg.bnd ho.own ho.hc 0 #[] true s r tm;refine⟨_,_,hrunT,Yc (wg:=tp wg w.tape 0) ho.rg.gb hst.2 _ rfl (ho.fH.own (.inr rfl) (G aB χ) ξ ξ _ _ _ _) ?_ (Cc.pF (by simp[ho.fH.size])) hc' hset.2 hset.1 (ho.own.set 0 #[] true s r tm) ho.lv hG hq (pc:=t.size+1) ?_ ?_ (by rw[size_setChan];exact ho.hB)⟩
  .rw[ow hk0,JO,ho.ha];simp[ha']
  .rw[heq];exact abZ.ab0 ho.own.Vv hk0 hcB hco
  .rw[heq];have hlast:=lI (t++#[{g:=k,fn:=aB.fn,pos:=aB.place,act:=.access ⟨.obj c,false,true⟩}]) {g:=k,fn:=aB.fn,pos:=aB.place,act:=.close c};have hheard:=heard_new (y:=({g:=k,fn:=aB.fn,pos:=aB.place,act:=.close c}:MemOp)) abZ.zw;have hsz1:∀ x:MemOp,(t++#[x]:Trace).size=t.size+1:=fun x=>by simp
   rw[hsz1] at hlast hheard;refine⟨⟨_,hlast,rfl,rfl⟩,hheard,fun i op hi _ _=>?_⟩;have:=lt_size_of_getElem? hi;simp at this ⊢;omega
 | succ m ih =>
  intro vs acc fr cs wg gs a w sl t q B X R aB χ s r tm ρ ho sa hws;refine afh hK hL (fun fr cs wg hstop gs a w sl t q B X R aB χ s r tm ρ ho sa=>?_) ((gT ..).1 hws) _ gs a w sl t q B X R aB χ s r tm ρ rfl ho sa;have hk0:=ho.k0;have hkf:(k==0)=false:=by simp[hk0]
  obtain⟨v,π,⟨hn,hne,μ,es,hsel,hqs⟩,hS,hws⟩:=hstop (fun j=>w.tape (w.drawn+j)) 0;obtain⟨bC,dA,D8,w',η,R',hcomm,hcv,hrg,hW⟩:=Ua hK hL ho.rg ho.own hn hne hsel ⟨hqs,fun _ _=>rfl⟩;obtain⟨ν,D6,eY,rfl,hv,hz⟩:=aeh hcv;have hc':=hW.chan.trans ho.hc;have Ve:stepG P (k==0) (G aB χ) w=.comm (G bC dA) #[scase c ν D6,rcaseNil eY] true .select w' η:=by rw[hkf];exact hcomm
  have hmid:Mid (XL S X) (YL S c R') k (max B w'.heap.size) (t++MemOp.ofEvents k (G aB χ).frame.fn (G aB χ).frame.place η):=(ho.mid.mono (Z5 _ _) (fun _ _ h=>h) (YL.mono hW.sup)).afP hW.own.Vv hk0 (n:=w'.heap.size) (J9 _ _) hW.ev;have hoff:∀ (j:Nat)(c'':CommCase),j≠0->(#[scase c ν D6,rcaseNil eY]:Array CommCase)[j]? = some c''->NoWays w' (gs.setIfInBounds k ph) c'':=by
   intro j c'' hj hcc;have:j<2:=(fT.1 hcc).1;have:j=1:=by omega
   subst this;simp at hcc;subst hcc;exact ways_nil none
  have hbase:∀ b,Open P L K S c n0 w0 R0 k (gs.setIfInBounds k b) a b w' (t++MemOp.ofEvents k (G aB χ).frame.fn (G aB χ).frame.place η) q (max B w'.heap.size) X R' fr cs (tp wg (fun j=>w.tape (w.drawn+j)) 0) bC dA vs acc s r tm:=by
   intro b;refine⟨?_,by rw[ow hk0];exact ho.ha,Cc.pF ho.fH.size,hc',hrg,hW.own,ho.lv.mono hW.sup,hmid,J9 _ _⟩;have:=ho.fH.comm (c:=c) (i:=k) (.inr rfl) (gs':=gs.setIfInBounds k b) (by simp) (fun j h0 _=>by rw[ow (by omega)]) (fn:=(G aB χ).frame.fn) (pos:=(G aB χ).frame.place) (es:=η) (u:=#[]) (by simp);simpa using this
  rcases sa with⟨n,rfl,hG⟩|⟨rfl,g,rfl,hs⟩
  .have har:a.status=.running:=hG.running (fun _ _ _=>gZ.running);have hpn:partners (gs.setIfInBounds k ph) c false=[]:=ho.fH.partners_nil ho.ha ho.hb (fun _=>offersAt_of_not_blocked (by rw[har];simp) c false) fun h=>absurd rfl h
   have hrunT:=crowd_waits (sl:=sl) ho.hb Ve (fun cc hcc=>by
    simp only[qch,rD,xS,or_false] at hcc;rcases hcc with rfl|rfl
    .exact ways_send_none hc' (by simp) hpn
    .exact ways_nil none)
   exact⟨_,_,hrunT,Qh U2 ih _ _ a w' sl _ q _ X n v ν D6 π eY rfl (hbase _) (hG.rely hW.rel) hv hz hS hws⟩
  .have hpn:partners (gs.setIfInBounds k ph) c false=[(0,0)]:=ho.fH.partners_one (.inr ⟨rfl,rfl⟩) ho.ha (by rw[offersAt_parked_recv,if_pos rfl]);have hrunT:=Eb (sl:=sl) (k:=0) ho.hb Ve rfl hoff hc' (Ao hk0) ho.ha hpn;rw[finishComm_recv] at hrunT;have hfin:(G bC dA).finishComm P #[scase c ν D6,rcaseNil eY] .select (0:Nat) au false=G (bC.finish (.tuple #[goInt 0,.bool false,eY])) dA:=by
    show({G bC dA with frame:=(G bC dA).frame.finish (commResult #[scase c ν D6,rcaseNil eY] .select 0 au false),status:=.running,offers:=none}:Goroutine)=_;rw[YG];rfl
   rw[hfin] at hrunT;have hst':=hs w' hW.rel;have hcr:jV P t gs k q:=ho.fH;have hopen:Open P L K S c n0 w0 R0 k ((gs.setIfInBounds 0 (Go.Conc.served (core g) (recvd true ν true))).setIfInBounds k (G (bC.finish (.tuple #[goInt 0,.bool false,eY])) dA)) (Go.Conc.served (core g) (recvd true ν true)) (G (bC.finish (.tuple #[goInt 0,.bool false,eY])) dA) (w'.setChan c 0 #[] false (s+1) (r+1) tm) _ q (max B w'.heap.size) X R' (fr.finish (.tuple #[goInt 0,.bool false,π])) cs (tp wg (fun j=>w.tape (w.drawn+j)) 0) (bC.finish (.tuple #[goInt 0,.bool false,eY])) dA (vs++[v]) (acc++[ν]) (s+1) (r+1) tm :=Open.meet (w:=w') (t:=t) (B:=max B w'.heap.size) (q:=q) (gs:=gs) (a:=parked (core g) #[rcase c z] (.recv true)) (b:=G aB χ) (i:=k) (es:=η) (fn:=(G aB χ).frame.fn) (pos:=(G aB χ).frame.place)
     ⟨hcr,ho.ha,ho.hb,hc',hrg,hW.own,ho.lv.mono hW.sup,ho.mid.mono (Z5 _ _) (fun _ _ h=>h) (YL.mono hW.sup),J9 _ _⟩ hv hz (by simp) (fun j h0 hk=>by rw[ow (by omega),ow (by omega)])
     (by rw[ow hk0];exact Cc.pE hcr.size) (Cc.pF (by simp[hcr.size])) (.inr rfl) (Gi (c:=c) (k:=k) (s:=s) (r:=r) (cap:=0) (.inr ⟨rfl,rfl⟩) (G bC dA).frame.fn (core g).frame.fn (G bC dA).frame.fn (core g).frame.fn (G bC dA).frame.place (core g).frame.place (G bC dA).frame.place (core g).frame.place) hmid
   have hrm:=hst'.2.2 ν (U2 R' v ν hv hS);obtain⟨Γ,hn₁⟩:=(Dk ..).1 hrm;exact⟨_,_,hrunT,ih _ _ _ _ _ _ _ _ sl _ _ _ _ _ _ _ _ _ _ (Γ+1) hopen (.inl ⟨Γ,rfl,hn₁.rely (Jl hW.own.cX hW.own.cS _ _ _ _ _ _ _)⟩) hws⟩
end
end Sr
end
section
open Go.Conc
open Go.ConcN (sumTo upd sumTo_upd upd_ne upd_same)
namespace Cc
def BW(P:Program)(g:Goroutine)(w:World)(Φ:Goroutine->World->Prop):Prop :=∀ (d:Nat)(gs:Array Goroutine)(sl:Option (Nat×Nat))(t:Trace)(q:Nat->Nat)(B:Nat),gs[0]? = some g->Leavers P t gs q->Past Ai B t->w.heap.size<=B ->
  ∃ N m' t',runNT P N (crowd gs (w.at d) sl) t=(.next m',t')/\WR P Φ m' t'
section
variable {P:Program}{g:Goroutine}{w:World}{Φ Ψ:Goroutine->World->Prop}
theorem BW.done(h:∀ d,Φ g (w.at d)):BW P g w Φ:=fun d gs sl t q B h0 hL hP hB=>⟨0,_,t,rfl,gs,g,w.at d,sl,q,B,rfl,h0,h d,hL,hP,hB⟩
theorem BW.bind(h:BW P g w Φ)(hn:∀ g' w',Φ g' w'->BW P g' w' Ψ):BW P g w Ψ:=fun d gs sl t q B h0 hL hP hB=>by
 obtain⟨N,m',t',hr,gs',g',w',sl',q',B',rfl,h0',hΦ,hL',hP',hB'⟩:=h d gs sl t q B h0 hL hP hB;obtain⟨M,m'',t'',hr',hd⟩:=hn g' w' hΦ w'.drawn gs' sl' t' q' B' h0' hL' hP' hB';exact⟨N+M,m'',t'',by rw[runNT_add,hr];exact hr',hd⟩
theorem BW.mono(h:BW P g w Φ)(hn:∀ g' w',Φ g' w'->Ψ g' w'):BW P g w Ψ:=fun d gs sl t q B h0 hL hP hB=>by
 obtain⟨N,m',t',hr,gs',g',w',sl',q',B',rfl,h0',hΦ,hL',hP',hB'⟩:=h d gs sl t q B h0 hL hP hB;exact⟨N,_,t',hr,gs',g',w',sl',q',B',rfl,h0',hn _ _ hΦ,hL',hP',hB'⟩
theorem BW.at(h:BW P g w Φ)(d:Nat):BW P g (w.at d) Φ:=fun d' gs sl t q B h0 hL hP hB=>h d' gs sl t q B h0 hL hP hB
theorem EA(hrun:g.status=.running):∀ (M:Nat)(d:Nat)(gs:Array Goroutine)(sl:Option (Nat×Nat))(t:Trace)(q:Nat->Nat)(B:Nat),sumTo gs.size q=M->gs[0]? = some g->Leavers P t gs q->Past Ai B t ->
  ∃ N gs' d' sl' t' q' d2 sl2,runNT P N (crowd gs (w.at d) sl) t=(.next (crowd gs' (w.at d') sl'),t')/\gs'[0]? = some g/\Leavers P t' gs' q'/\Past Ai B t'/\stepT P (crowd gs' (w.at d') sl')=runT P (crowd gs' (w.at d2) sl2) 0:=by
 intro M
 induction M using Nat.strongRecOn with
 | _ M Qw =>
  intro d0 gs sl t q B hM h0 hL hP;have hpos:0<gs.size:=(fT.1 h0).1;have haw:∀ g∈gs,awake g:=by
   intro g' hg;obtain⟨i,hi,rfl⟩:=qcj.1 hg;rcases UZ i with rfl|hp
   .have:gs[0]=g:=by simpa[mJ hi] using h0
    rw[this];exact awake_of (.inl hrun)
   .exact awake_of ((hL.old i _ hp (mJ hi)).status.elim .inl fun x=>.inr (.inr x))
  obtain⟨i,g',d,sl',hi,hg,hst⟩:=crowd_pick (P:=P) (w:=w.at d0) (sl:=sl) haw ⟨0,_,h0,hrun⟩;rcases UZ i with rfl|hp
  .exact⟨0,gs,d0,sl,t,q,d,sl',rfl,h0,hL,hP,hst⟩
  .have hq:=hL.old i g' hp hi;have hi0:(i==0)=false:=by simp;omega
   have hlt:i<gs.size:=(fT.1 hi).1
   cases hqi:q i with
   | zero=>rw[hqi] at hq;rw[hq.1] at hg;cases hg
   | succ k =>
    rw[hqi] at hq;rcases hq with⟨hf,_⟩|⟨_,g2,es',hm,hstp,hq'⟩
    .rw[hf] at hg;cases hg
    have hrunT:=runT_crowd_go (P:=P) (sl:=sl') (i:=i) hi (by rw[hi0];exact hstp ((w.at d0).at d));have hsz:((gs.map (woken P g' g2 ((w.at d0).at d))).setIfInBounds i g2).size=gs.size:=by simp
    have hsum:sumTo gs.size (upd q i k)+(k+1)=sumTo gs.size q+k:=by
     have:=sumTo_upd q k id hlt;simpa[hqi] using this
    obtain⟨N,gs',d',sl'',t',q',d2,sl2,hr,h0',hL',hP',hst'⟩:=Qw (sumTo gs.size (upd q i k)) (by omega) d ((gs.map (woken P g' g2 ((w.at d0).at d))).setIfInBounds i g2) sl' (t++MemOp.ofEvents i g'.frame.fn g'.frame.place es') (upd q i k) B (by rw[hsz])
     (by rw[ow (by omega),JO,h0];simp[woken_run hrun])
     ⟨fun j x hj hx=>by
      by_cases hji:i=j
      .subst hji;rw[Sn (by simpa using hlt)] at hx;obtain rfl:=pQ hx;rw[upd_same,Deaf_own];exact hq'
      .rw[ow hji,JO] at hx;obtain⟨y,hy,rfl⟩:=zA.1 hx;have hqj:=hL.old j y hj hy;rw[woken_quitsD hqj,upd_ne q k (Ao hji),Deaf_other t hji _ (fun op hop=>by obtain⟨e,_,rfl⟩:=Go.Conc.mem_ofEvents hop;rfl)];exact hqj,
     fun j hj=>by
      rw[Deaf_other t (g':=i) (by simp at hj;omega) _ (fun op hop=>by obtain⟨e,_,rfl⟩:=Go.Conc.mem_ofEvents hop;rfl)];exact hL.above j (by simpa using hj)⟩
     (hP.mute (by omega) hm)
    refine⟨N+1,gs',d',sl'',t',q',d2,sl2,?_,h0',hL',hP',hst'⟩;simp only[runNT,hst,hrunT];exact hr
theorem BW.step(hrun:g.status=.running)(h:∀ d,∃ g' w' es,stepG P true g (w.at d)=.go g' w' es/\w.heap.size<=w'.heap.size/\(∀ e∈es,Low w'.heap.size e)/\BW P g' w' Φ):BW P g w Φ:=fun d0 gs sl t q B h0 hL hP hB=>by
 obtain⟨N,gs1,d1,sl1,t1,q1,d2,sl2,hr,h01,hL1,hP1,hst⟩:=EA (w:=w) hrun _ d0 gs sl t q B rfl h0 hL hP;have hpos:0<gs1.size:=(fT.1 h01).1;obtain⟨g',w',es,hgo,hsz,hlow,hbw⟩:=h d2;have hrunT:=runT_crowd_go (P:=P) (sl:=sl2) (i:=0) h01 (show stepG P (0==0) g (w.at d2)=_ from hgo);obtain⟨M,m',t',hr',hd⟩:=hbw w'.drawn ((gs1.map (woken P g g' w')).setIfInBounds 0 g') sl2 (t1++MemOp.ofEvents 0 g.frame.fn g.frame.place es) q1 (max B w'.heap.size) (by rw[Sn (by simpa using hpos)]) (hL1.own hpos _ _ es)
  ((hP1.mono (Z5 _ _)).own fun e he=>uo (hlow e he) (J9 _ _)) (J9 _ _)
 refine⟨N+(1+M),m',t',?_,hd⟩;rw[runNT_add,hr];show runNT P (1+M) _ _=_;rw[runNT_add];simp only[runNT,hst,hrunT];exact hr'
theorem BW.tree{Q:Frame->World->Prop}{fr:Frame}{cs base:List Frame}(ht:Tree P Q fr cs w)(h:∀ fr' w',OkR P fr'->(∀ d,Q fr' (w'.at d))->BW P (G fr' base) w' Φ):BW P (G fr (cs++base)) w Φ:=fun d0 gs sl t q B h0 hL hP hB=>by
 obtain⟨N,gs',fr',w',sl',t',q',B',hr,_,h0',hok,hQ,hL',hP',hB'⟩:=RS ht base _ d0 gs sl t q B rfl h0 hL hP hB;obtain⟨M,m',t'',hr',hd⟩:=h fr' w' hok hQ w'.drawn gs' sl' t' q' B' h0' hL' hP' hB';exact⟨N+M,m',t'',by rw[runNT_add,hr];exact hr',hd⟩
end
end Cc
end
section
open Go.Conc
open Go.ConcN (sumTo upd sumTo_upd upd_ne upd_same)
open Cc (tp Ai jV Shut Comm heard_new lI BW EA Low uo)
namespace Sr
section
variable {P:Program}{L:FuncId->Bool}{K:Op->Bool}{S:Nat->Prop}{c:Nat}{w0:World}{D:Nat->Prop}{z:Value}{Sh:Value->Prop}{Fin:List Value->(Nat->Prop)->Goroutine->World->Prop}{fU:List Value->World->Prop}
def aeu(P:Program)(L:FuncId->Bool)(S:Nat->Prop)(c:Nat)(w0:World)(D:Nat->Prop)(Fin:List Value->(Nat->Prop)->Goroutine->World->Prop)(fU:List Value->World->Prop)(g:Goroutine)(w:World):Prop :=∃ (X:Nat->Prop)(R:Nat->Nat->Prop)(wg:World)(vs acc:List Value),Fin acc X g w/\fU vs wg/\LV R L vs acc/\GB P R/\FZ R wg.heap.size w.heap.size/\HR R L wg.heap w.heap/\Own2 L S c w0.heap.size w0 (mQ D) R X w
theorem Z7{g:Goroutine}{w:World}(hrun:g.status=.running)(hK:vB P L K)(hL:∀ f,L f=true->fK P f)(U2:∀ R v ν,VR R L v ν->Sh v->Sh ν)(hgb:GB P (mQ D))(PK:∀ a,D a->a<w0.heap.size)(hDc:¬ D c)(hSl:∀ b,S b->b<w0.heap.size)(hSD:∀ b,S b->D b)(hoq:∀ b:Nat,L (2*b+1000000001)=true->b<w0.heap.size)(hheap:HR (mQ D) L w0.heap w0.heap){s r m:Nat}{tm:Bool}(hc:w0.heap[c]? = some (.chan 0 #[] false s r tm))(h:∀ d,∃ g' fr cs d' es,stepG P true g (w.at d)=.spawn g' (G fr cs) (w0.at d') es/\w.heap.size<=w0.heap.size/\(∀ e∈es,Low w0.heap.size e)/\SL P (mQ D) L K false O0 [] [] fr cs fr cs /\
   RM P S c z Sh Fin m [] (fun _=>False) g' (w0.at d')/\WS P L K S c Sh fU m [] fr cs (w0.at d')):BW P g w (aeu P L S c w0 D Fin fU):=by
 intro d0 gs sl t q B h0 hL0 hP hB;obtain⟨N,gs1,d1,sl1,t1,q1,d2,sl2,hr,h01,hL1,hP1,hst⟩:=EA (w:=w) hrun _ d0 gs sl t q B rfl h0 hL0 hP;have hpos:0<gs1.size:=(fT.1 h01).1;obtain⟨g',fr,cs,d',es,hgo,hsz,hlow,hsl,hR,hC⟩:=h d2;have hrunT:=runT_crowd_spawn (P:=P) (sl:=sl2) (i:=0) h01 (show stepG P (0==0) g (w.at d2)=_ from hgo);obtain⟨na,hna⟩:=(Dk ..).1 hR;have hP2:=(hP1.mono (Z5 B w0.heap.size)).own (fn:=g.frame.fn) (pos:=g.frame.place) fun e he=>uo (hlow e he) (J9 _ _)
 have hk0:gs1.size≠0:=by omega
 have aev:∀ j,j≠0->Deaf (t1++MemOp.ofEvents 0 g.frame.fn g.frame.place es) j=Deaf t1 j:=fun j hj=>Deaf_other t1 (g':=0) (Ao hj) _ (fun op hop=>by obtain⟨e,_,rfl⟩:=Go.Conc.mem_ofEvents hop;rfl)
 have hmid:=Mid.start (X:=XL S fun _=>False) (Y:=YL S c (mQ D)) (x:={g:=0,fn:=g.frame.fn,pos:=g.frame.place,act:=.go gs1.size}) (y:={g:=gs1.size,fn:=fr.fn,pos:=g.frame.place,act:=.start}) hP2 hk0 (by rw[aev _ hk0];exact hL1.above _ (aY _)) rfl rfl rfl rfl;have hT:t1++((MemOp.ofEvents 0 g.frame.fn g.frame.place es).push {g:=0,fn:=g.frame.fn,pos:=g.frame.place,act:=.go gs1.size}).push {g:=gs1.size,fn:=fr.fn,pos:=g.frame.place,act:=.start}=t1++MemOp.ofEvents 0 g.frame.fn g.frame.place es++#[{g:=0,fn:=g.frame.fn,pos:=g.frame.place,act:=.go gs1.size}]++#[{g:=gs1.size,fn:=fr.fn,pos:=g.frame.place,act:=.start}]:=by simp
 have hD2:∀ j,j≠0->Deaf (t1++MemOp.ofEvents 0 g.frame.fn g.frame.place es++#[{g:=0,fn:=g.frame.fn,pos:=g.frame.place,act:=.go gs1.size}]++#[{g:=gs1.size,fn:=fr.fn,pos:=g.frame.place,act:=.start}]) j=Deaf t1 j:=fun j hj=>by
  rw[Deaf_push,Deaf_push,aev j hj];rfl
 have hopen:Open P L K S c w0.heap.size w0 (mQ D) gs1.size ((gs1.setIfInBounds 0 g').push (G fr cs)) g' (G fr cs) (w0.at d') (t1++MemOp.ofEvents 0 g.frame.fn g.frame.place es++#[{g:=0,fn:=g.frame.fn,pos:=g.frame.place,act:=.go gs1.size}]++#[{g:=gs1.size,fn:=fr.fn,pos:=g.frame.place,act:=.start}]) q1 (max B w0.heap.size) (fun _=>False) (mQ D) fr cs (w0.at d') fr cs [] [] s r tm:=by
  refine⟨⟨hpos,by simp,fun i x hi0 hik hi=>?_,fun j hj=>?_⟩,?_,?_,hc,⟨hgb,fun a b hab=>⟨PK a hab.2,hab.1 ▸ PK a hab.2⟩,hheap,hsl⟩,⟨fun a ha=>hDc (ha.1 ▸ ha.2),id,fun _ _ _ h=>h,fun _ h=>h.elim,fun b _ _ _=>rfl,rfl,rfl,rfl,fun _ _ h=>h,aY _,(fT.1 hc).1,fun a b h _=>h.1,hSl,fun _ _ h _=>h,fun b hS=>⟨rfl,hSD b hS⟩,hoq⟩,.nil,hmid,J9 _ _⟩
  .have hi':gs1[i]? = some x:=by
    rw[Qi,if_neg (by simp;omega),ow (by omega)] at hi;exact hi
   rw[hD2 i (by omega)];exact hL1.old i x hi0 hi'
  .rw[hD2 j (by omega)];exact hL1.above j (by omega)
  .rw[Array.getElem?_push_lt (by simpa using hpos)];simp
  .have e:gs1.size=(gs1.setIfInBounds 0 g').size:=by simp
   rw[e,JL]
 obtain⟨M,m',t',hr',hd⟩:=YO (n0:=w0.heap.size) (w0:=w0) (R0:=mQ D) (Fin:=Fin) (fU:=fU) hK hL U2 m [] [] fr cs (w0.at d') _ g' (w0.at d') sl2 _ q1 _ _ _ fr cs s r tm (na+1) hopen (.inl ⟨na,rfl,hna⟩) hC;obtain⟨gs',a',w',sl',q',B',X',R',IQ,vs',acc',rfl,k1,k2,k3,k4,k5,k6,k7,k8,k9,k10,k11⟩:=hd;refine⟨N+(1+M),_,t',?_,gs',a',w',sl',q',B',rfl,k1,⟨X',R',IQ,vs',acc',k2,k3,k4,k5,k6,k7,k8⟩,k9,k10,k11⟩;rw[runNT_add,hr];show runNT P (1+M) _ _=_;rw[runNT_add];simp only[runNT,hst,hrunT];rw[show(G fr cs).frame.fn=fr.fn from rfl,hT];exact hr'
end
end Sr
end
section
open Go.Conc
namespace Cc
section
variable {P:Program}{L:List FuncId}{w:World}{Φ:Goroutine->World->Prop}{b:Frame}{a:Act}{k:List Item}{cs:List Frame}
theorem BW.ctl{g g':Goroutine}(hr:g.status=.running)(h:∀ w,stepG P true g w=.go g' w #[])(hn:BW P g' w Φ):BW P g w Φ :=BW.step hr fun d=>⟨g',w.at d,#[],h _,aY _,by simp,hn.at d⟩
theorem BW.seq{x y:Code}(h:BW P (G (b.at a (.code x::.code y::k)) cs) w Φ):BW P (G (b.at a (.code (.seq x y)::k)) cs) w Φ:=.ctl rfl (fun _=>stepG_seq) h
theorem BW.skip(h:BW P (G (b.at a k) cs) w Φ):BW P (G (b.at a (.code .skip::k)) cs) w Φ:=.ctl rfl (fun _=>stepG_skip) h
theorem BW.cond{c:Operand}{x y:Code}{t:Bool}(hc:a.eval c=.bool t)(h:BW P (G (b.at a (.code (if t then x else y)::k)) cs) w Φ):BW P (G (b.at a (.code (.cond c x y)::k)) cs) w Φ:=.ctl rfl (fun _=>stepG_cond hc) h
theorem BW.region{id:Nat}{ops:Array Oper}(h:BW P (G (b.at a (.inRegion ops (List.range' 0 ops.size)::k)) cs) w Φ):BW P (G (b.at a (.code (.region id ops false)::k)) cs) w Φ:=.ctl rfl (fun _=>by rw[stepG_region,List.range_eq_range']) h
theorem BW.rend{ops:Array Oper}(h:BW P (G (b.at a k) cs) w Φ):BW P (G (b.at a (.inRegion ops []::k)) cs) w Φ:=.ctl rfl (fun _=>stepG_region_end) h
theorem BW.JB{ops:Array Oper}{Q:Exit->Act->World->Prop}{Rr:Act->World->Prop}(hk:b.kind≠.early)(hP:fO P L)(hQ:∀ e a w,Q e a w->e=.normal/\Rr a w)(hR:∀ a w τ d,Rr a w->Rr a (tp w τ d)){rest:List Nat}{T0:Nat->Question->Nat}(hn:∀ a' w',w'.tape=T0->Rr a' w'->BW P (G (b.at a' (.inRegion ops rest::k)) cs) w' Φ):∀ (l:List Oper)(i D:Nat)(h:Nat->Question->Nat)(a:Act)(w:World),w.tape=T0->(∀ j,j<l.length->l[j]? = ops[i+j]?)->(∀ o∈l,bT P [] o.op=true)->(∀ τ d,(∀ x,x<D->τ (d+x)=h x)->wpList P ops Q l a (tp w τ (d+D))) ->
   BW P (G (b.at a (.inRegion ops (List.range' i l.length++rest)::k)) cs) w Φ
 | [],i,D,h,a,w,hT,_,_,hw=>by
  have h1:=(hQ _ _ _ (hw h 0 (fun x _=>by rw[lU]))).2;have h2:=hR _ _ w.tape w.drawn h1;rw[V8,aa0] at h2;simpa using hn a w hT h2
 | o::l,i,D,h,a,w,hT,hl,hok,hw=>by
  have ho:ops[i]? = some o:=by simpa using(hl 0 (by simp)).symm
  have hl':∀ j,j<l.length->l[j]? = ops[i+1+j]?:=fun j hj=>by
   have:=hl (j+1) (by simp;omega);simpa[Zu,Nat.add_comm 1 j] using this
  have hok':∀ o∈l,bT P [] o.op=true:=fun x hx=>hok x (List.mem_cons_of_mem _ hx)
  simp only[oH,List.range'_succ,NJ];by_cases hwt:Region.wanted o (yielded ops a.tmps)=true
  .refine BW.step rfl fun d=>?_
   obtain⟨n,r,es',hr⟩:=dZ (uy (P:=P) (L:=[]) (hE:=zF P) (ρ:=a.eval) (o:=o) (fun f=>rfl) (hok o (by simp))) (w.at d) #[];have hlow:=qR hr.low;have hrun:(execOp a.eval o).run P (w.at d)=r:=by rw[<-Sem.runT_fst,hr.eq]
   have hev:(execOp a.eval o).events P (w.at d) #[]=es':=by unfold Sem.events;rw[hr.eq]
   have agv:∀ (τ:Nat->Question->Nat)(e:Nat),(∀ x,x<n->τ (e+x)=w.tape (d+x))->(execOp a.eval o).run P (tp w τ e)=tpR τ (e+n) r:=fun τ e ht=>by
    rw[<-Sem.runT_fst];have:=hr.nat τ e ht;rw[show tp (w.at d) τ e=tp w τ e from rfl] at this;rw[this]
   have hup:∀ (τ:Nat->Question->Nat)(e:Nat),(∀ x,x<D->τ (e+x)=h x)->(∀ x,x<n->τ (e+D+x)=w.tape (d+x))->o.upon P a (wpList P ops Q l) Q (tpR τ (e+D+n) r):=fun τ e h1 h2=>by
    have:=hw τ e h1;unfold wpList at this;rw[if_pos hwt] at this;rcases this with h3|⟨_,x,y,h3⟩
    .unfold Oper.wp at h3;rw[agv τ (e+D) h2] at h3;exact h3
    .have:=(hQ _ _ _ h3).1;cases this
   let h':Nat->Question->Nat:=fun x=>if x<D then h x else w.tape (d+(x-D))
   have hsplit:∀ (τ:Nat->Question->Nat)(e:Nat),(∀ x,x<D+n->τ (e+x)=h' x)->(∀ x,x<D->τ (e+x)=h x)/\∀ x,x<n->τ (e+D+x)=w.tape (d+x):=fun τ e ht=>by
    refine⟨fun x hx=>?_,fun x hx=>?_⟩
    .rw[ht x (by omega)];simp[h',hx]
    .rw[Zu,ht (D+x) (by omega)];simp only[h'];rw[if_neg (by omega),show D+x-D=x by omega]
   have hex:∀ x,x<D+n->(fun y=>h' y) (0+x)=h' x:=fun x _=>by rw[lU]
   cases r with
   | ok nx w' =>
    have hg:=hr.good nx w' rfl
    cases nx with
    | value v =>
     refine⟨_,w',seen P b.fn es',?_,hr.size,fM hlow,BW.JB hk hP hQ hR hn l (i+1) (D+n) h' (a.put o.dst v) w' (hr.tape.trans hT) hl' hok' fun τ e ht=>?_⟩
     .rw[stepG_value ho hwt hk hrun];unfold listed;rw[hev]
     .have:=hsplit τ e ht;have:=hup τ e this.1 this.2;rw[Zu] at this;exact this
    | skip =>
     refine⟨_,w',seen P b.fn es',?_,hr.size,fM hlow,BW.JB hk hP hQ hR hn l (i+1) (D+n) h' (a.put o.dst au) w' (hr.tape.trans hT) hl' hok' fun τ e ht=>?_⟩
     .rw[stepG_none ho hwt hk hrun];unfold listed;rw[hev]
     .have:=hsplit τ e ht;have:=hup τ e this.1 this.2;rw[Zu] at this;exact this
    | enter f args=>simp[nI,oD] at hg
    | _=>exact hg.elim
   | halt x w' =>
    have h1:=hsplit (fun y=>h' y) 0 hex;have h2:=hup (fun y=>h' y) 0 h1.1 h1.2
    cases x with
    | panic v=>have:=(hQ _ _ _ h2).1;cases this
    | _=>exact h2.elim
  .have hwf:Region.wanted o (yielded ops a.tmps)=false:=by simpa using hwt
   refine BW.ctl rfl (fun _=>stepG_unwanted ho hwf) (BW.JB hk hP hQ hR hn l (i+1) D h (a.put o.dst au) w hT hl' hok' fun τ d ht=>?_);have:=hw τ d ht;unfold wpList at this;rw[if_neg hwt] at this;exact this
theorem BW.ops{ops:Array Oper}{Rr:Act->World->Prop}{rest:List Nat}(l:List Oper)(i:Nat)(hk:b.kind≠.early)(hP:fO P L)(hl:∀ j,j<l.length->l[j]? = ops[i+j]?)(hok:(l.all fun o=>bT P [] o.op)=true)(hw:∀ τ d,wpList P ops (fun e a w=>e=.normal/\Rr a w) l a (tp w τ d))(hR:∀ a w τ d,Rr a w->Rr a (tp w τ d))(hn:∀ a' w',Rr a' w'->BW P (G (b.at a' (.inRegion ops rest::k)) cs) w' Φ):BW P (G (b.at a (.inRegion ops (List.range' i l.length++rest)::k)) cs) w Φ :=BW.JB hk hP (fun _ _ _ h=>h) hR (fun a' w' _ h=>hn a' w' h) l i 0 (fun _ _=>0) a w rfl hl (by simpa using hok) fun τ d _=>hw τ d
theorem aiG{o:Oper}{Q Q':Exit->Act->World->Prop}{K K':Act->World->Prop}(hq:∀ e a w,Q e a w->Q' e a w)(h:∀ a w,K a w->K' a w)(hh:o.wp P a w K Q):o.wp P a w K' Q':=by
 unfold Oper.wp at *
 generalize (execOp a.eval o).run P w=r at *
 cases r with
 | ok n w' =>
  cases n <;> simp only[Oper.upon] at hh ⊢ <;>
   first
    | exact h _ _ hh
    | exact Calls.mono hh (fun e w'' he=>by
      cases e with
      | returned v=>exact h _ _ he
      | panicked ch=>exact hq _ _ _ he
      | outgrown=>obtain⟨x,y,he⟩:=he;exact⟨x,y,hq _ _ _ he⟩)
    | exact Rows.mono hh (fun _ _ he=>h _ _ he)
 | halt x w'=>cases x <;> simp only[Oper.upon] at hh ⊢ <;> first|exact hq _ _ _ hh|exact hh
theorem ah5{ops:Array Oper}{Q Q':Exit->Act->World->Prop}(hq:∀ e a w,Q e a w->Q' e a w):∀ (l:List Oper)(a:Act)(w:World),wpList P ops Q l a w->wpList P ops Q' l a w
 | [],a,w,h=>hq _ _ _ h
 | o::l,a,w,h=>by
  unfold wpList at h ⊢;split
  .rename_i hw
   rw[if_pos hw] at h;rcases h with h|⟨h1,x,y,h2⟩
   .exact .inl (aiG hq (ah5 hq l) h)
   .exact .inr ⟨h1,x,y,hq _ _ _ h2⟩
  .rename_i hw
   rw[if_neg hw] at h;exact ah5 hq l _ _ h
theorem BW.still{ops:Array Oper}{rest:List Nat}(a':Act)(l:List Oper)(i:Nat)(hk:b.kind≠.early)(hP:fO P L)(hl:∀ j,j<l.length->l[j]? = ops[i+j]?)(hok:(l.all fun o=>bT P [] o.op)=true)(hw:∀ τ d,wpList P ops (fun e x y=>e=.normal/\x=a'/\y=tp w τ d) l a (tp w τ d))(hn:BW P (G (b.at a' (.inRegion ops rest::k)) cs) w Φ):BW P (G (b.at a (.inRegion ops (List.range' i l.length++rest)::k)) cs) w Φ:=by
 refine BW.JB (Q:=fun e x y=>e=.normal/\x=a'/\∃ τ d,y=tp w τ d) (Rr:=fun x y=>x=a'/\∃ τ d,y=tp w τ d) hk hP (fun _ _ _ h=>h) (fun x y τ d h=>⟨h.1,τ,d,by obtain⟨_,jH,d',rfl⟩:=h;rfl⟩) (fun x y hT h=>?_) l i 0 (fun _ _=>0) a w rfl hl (by simpa using hok) fun τ d _=>ah5 (fun e x y h=>⟨h.1,h.2.1,τ,d,h.2.2⟩) l a _ (hw τ d)
 obtain⟨rfl,τ,d,rfl⟩:=h;have hT':τ=w.tape:=hT;subst hT';exact hn.at d
theorem BW.call{ops:Array Oper}{i:Nat}{rest:List Nat}{o:Oper}{f:FuncId}{fn:Func}{c:Code}{args:Array Operand}{ats:Array TypeId}{Rr:Value->World->Prop}(ho:ops[i]? = some o)(hw:Region.wanted o (yielded ops a.tmps)=true)(hk:b.kind≠.early)(hop:o.op=.call {callee:=.value (.func f),args,argTypes:=ats})(hP:fO P L)(hL:oD P L f=true)(hf:P.funcs[f]? = some fn)(hb:fn.body=some c){vs:Array Value}(ha:args.map a.eval=vs)(hC:∀ τ d,Calls P f vs (tp w τ d) fun e w'=>∃ v,e=.returned v/\Rr v w')(hR:∀ v w' τ d,Rr v w'->Rr v (tp w' τ d))(hn:∀ v w',Rr v w'->BW P (G (b.at (a.put o.dst v) (.inRegion ops rest::k)) cs) w' Φ):BW P (G (b.at a (.inRegion ops (i::rest)::k)) cs) w Φ:=by
 subst ha;have hname:(fn.name == "runtime.NumGoroutine")=false:=by
  unfold oD at hL;rw[hf] at hL;simp only[fE,bne_iff_ne,ne_eq] at hL;simpa using hL.2.1
 have hfin:∀ v,(b.at a (.inRegion ops (i::rest)::k)).finish v=b.at (a.put o.dst v) (.inRegion ops rest::k):=fun v=>by rw[Frame.finish_at,ho];rfl
 have henter:Frame.enter P f (args.map a.eval) .normal=(base f).at {tmps:=args.map a.eval++Array.replicate (fn.ntmps-(args.map a.eval).size) au,defers:=[]} [.code c]:=by
  simp[Frame.enter,Frame.at,hf,hb,base]
 refine BW.ctl rfl (fun w=>?_) (g':=G (Frame.enter P f (args.map a.eval) .normal) (b.at a (.inRegion ops (i::rest)::k)::cs)) ?_
 .have:=goes_call (main:=true) (w:=w) (K:=fun g' w' es=>g'=G (Frame.enter P f (args.map a.eval) .normal) (b.at a (.inRegion ops (i::rest)::k)::cs)/\w'=w/\es=#[]) (cs:=cs) (k:=k) (rest:=rest) ho hw hk hop hf hname hb ⟨by rw[henter],rfl,rfl⟩;obtain⟨g',w',es,h1,rfl,rfl,rfl⟩:=goes_elim this;exact h1
 .have ht:=FM hP hL hC hR;refine BW.tree (cs:=[]) (base:=b.at a (.inRegion ops (i::rest)::k)::cs) ht fun fr' w' hok hq=>?_
  obtain⟨g,tmps,todo,rfl,hg⟩:=hok;refine BW.step rfl fun d=>?_
  obtain⟨gn,v,hgn,hres,hRr,_⟩:=hq d;obtain⟨n,r,es',hr⟩:=dZ (kS (P:=P) gn tmps) (w'.at d) #[];have hlow:=qR hr.low;have h1:r=.ok v (w'.at d):=by
   have:((results gn tmps).runT P (w'.at d) #[]).1=.ok v (w'.at d):=by rw[Sem.runT_fst];exact hres
   rw[hr.eq] at this;exact this
  subst h1;refine⟨_,w'.at d,seen P g es',?_,aY _,fM hlow,hn v _ hRr⟩;rw[<-hfin];have hun:stepG P true (G (R g tmps todo) (b.at a (.inRegion ops (i::rest)::k)::cs)) (w'.at d)=unwind P true (R g tmps todo) (b.at a (.inRegion ops (i::rest)::k)::cs) none (w'.at d):=by simp[stepG,R,G]
  rw[hun];have XK:P.funcs[g]? = some gn:=hgn;unfold unwind;simp only[R,XK,hr.eq];simp[GStep.after,doReturn,G]
def Ends(P:Program)(Post:Value->World->Prop)(g:Goroutine)(w:World):Prop :=∃ f tmps todo fn v,g=G (R f tmps todo) []/\P.funcs[f]? = some fn/\P.inits.idxOf? f=none/\(∀ d,(results fn tmps).run P (w.at d)=.ok v (w.at d)/\Post v (w.at d))
theorem BW.last{f:FuncId}{fn:Func}{c:Code}{tmps:Array Value}{Post:Value->World->Prop}(hP:fO P L)(hf:P.funcs[f]? = some fn)(hi:P.inits.idxOf? f=none)(hc:gU P L c=true)(hC:∀ τ d,c.wp P (bodyPost P fn fun e w'=>∃ v,e=.returned v/\Post v w') {tmps,defers:=[]} (tp w τ d))(hR:∀ v w' τ d,Post v w'->Post v (tp w' τ d)):BW P (G ((base f).at ⟨tmps,[]⟩ [.code c]) []) w (Ends P Post):=by
 have ht:=DU (f:=f) hP hf hc hC hR;refine BW.tree (cs:=[]) (base:=[]) (fr:=F f tmps [.code c]) ht fun fr' w' hok hq=>.done fun d=>?_
 obtain⟨g,tm,todo,rfl,_⟩:=hok;obtain⟨gn,v,hgn,hres,hv,hfn⟩:=hq 0;have hfn':g=f:=hfn;subst hfn';refine⟨g,tm,todo,gn,v,rfl,hgn,hi,fun d'=>?_⟩;have h1:=jX (f:=0) hres w'.tape d';obtain⟨gn',v',XK,hres',hv',_⟩:=hq d';have abL:P.funcs[g]? = some gn':=XK;have ag7:P.funcs[g]? = some gn:=hgn;rw[ag7] at abL
 cases abL
 have h2:(results gn tm).run P (w'.at d')=.ok v (w'.at d'):=h1;have h3:(results gn tm).run P (w'.at d')=.ok v' (w'.at d'):=hres';rw[h2] at h3;simp only[Result.ok.injEq,and_true] at h3;subst h3;exact⟨h2,hv'⟩
theorem BW.finish{g:Goroutine}{Post:Value->World->Prop}(h:BW P g w (Ends P Post)):∃ N last o w' t',runNT P (N+1) (solo g w) #[]=(.ended o w',t')/\runN P N (solo g w)=.next last/\Go.step P last=.ended o w'/\Go.Conc.Good P Post last o w' t':=by
 obtain⟨N,m',t',hr,gs,a,w',sl',q',B',rfl,h0,⟨f,tmps,todo,fn,v,rfl,hf,hi,hd⟩,hL,hP,hB⟩:=h w.drawn #[g] none #[] (fun _=>0) w.heap.size (by simp) (leavers_one P g) ((past_nil).mono (M8 _)) (aY _);have hend:∀ d,∃ es,stepG P true (G (R f tmps todo) []) (w'.at d)=.ended (.done v) (w'.at d) es/\∀ e∈es,Low w'.heap.size e:=fun d=>by
  obtain⟨n,r,es',hr⟩:=dZ (kS (P:=P) fn tmps) (w'.at d) #[];have hlow:=qR hr.low;have h1:r=.ok v (w'.at d):=by
   have:((results fn tmps).runT P (w'.at d) #[]).1=.ok v (w'.at d):=by rw[Sem.runT_fst];exact(hd d).1
   rw[hr.eq] at this;exact this
  subst h1;refine⟨seen P f es',?_,fM hlow⟩;have hun:stepG P true (G (R f tmps todo) []) (w'.at d)=unwind P true (R f tmps todo) [] none (w'.at d):=by simp[stepG,R,G]
  rw[hun];unfold unwind;simp only[R,hf,hr.eq];simp[GStep.after,doReturn,hi]
 have hG:Goes P true AtRel (fun _ _ es=>∀ e∈es,EvL Ai B' e) (AtEnd P Ai B' Post) 0 (G (R f tmps todo) []) w':=fun ω aeH=>by
  obtain⟨d,rfl⟩:=aeH;obtain⟨es,h1,h2⟩:=hend d;exact⟨rfl,v,es,h1,fun e he=>uo (h2 e he) hB,(hd d).2⟩
 obtain⟨M,last,o,w'',t'',h1,h2,h3,h4⟩:=beside_ends (sl:=sl') (fun _ _ _ h=>h) h0 hL hP hG;have hr':runNT P N (solo g w) #[]=(.next (crowd gs w' sl'),t'):=hr;refine⟨N+M,last,o,w'',t'',?_,?_,h3,h4⟩
 .rw[Zu,runNT_add,hr'];exact h1
 .have e:runN P N (solo g w)=.next (crowd gs w' sl'):=by rw[<-runNT_fst _ _ _ #[],hr']
  rw[runN_add,e];exact h2
end
end Cc
end
section
open Go.Conc
open Go.ConcN (sumTo upd sumTo_upd upd_ne upd_same)
open Cc (tp Ai BW EA c0)
namespace Sr
theorem XY{R:Nat->Nat->Prop}{n:Nat}{e:Event}(h:Ev R n e):EvL Ai n e:=by
 obtain⟨loc,wr,sy⟩:=e;rcases h with⟨a,x,h1,h2,h3,h4⟩|⟨r,x,h1,h2,h3,h4⟩|⟨m,h1,h2,h3,h4⟩
 .simp only at h1 h4;subst h1 h4;exact⟨fun x _ hs=>hs.elim,by simp,by simp,show a.block<n from h3⟩
 .simp only at h1 h4;subst h1 h4;refine⟨fun x _ hs=>hs.elim,by simp,by simp,?_⟩
  cases wr
  .exact h3
  .exact h3
 .simp only at h1 h3 h4;subst h1 h3 h4
  cases m <;> first|(cases h2;done)|exact⟨fun x _ hs=>hs.elim,by simp,by simp,trivial⟩
section
variable {P:Program}{L:FuncId->Bool}{K:Op->Bool}{S:Nat->Prop}{Φ:Frame->List Frame->World->Prop}{Ψ:Goroutine->World->Prop}{g:Goroutine}{w:World}
theorem QV(hrun:g.status=.running)(h:∀ d,∃ g' w' es,stepG P true g (w.at d)=.go g' w' es/\w.heap.size<=w'.heap.size/\(∀ e∈es,EvL Ai w'.heap.size e)/\BW P g' w' Ψ):BW P g w Ψ:=fun d0 gs sl t q B h0 hL hP hB=>by
 obtain⟨N,gs1,d1,sl1,t1,q1,d2,sl2,hr,h01,hL1,hP1,hst⟩:=EA (w:=w) hrun _ d0 gs sl t q B rfl h0 hL hP;have hpos:0<gs1.size:=(fT.1 h01).1;obtain⟨g',w',es,hgo,hsz,hlow,hbw⟩:=h d2;have hrunT:=runT_crowd_go (P:=P) (sl:=sl2) (i:=0) h01 (show stepG P (0==0) g (w.at d2)=_ from hgo);have hlow':∀ e∈es,EvL Ai (max B w'.heap.size) e:=fun e he=>⟨(hlow e he).1,(hlow e he).2.1,(hlow e he).2.2.1,MemAct.low_mono (J9 _ _) (hlow e he).2.2.2⟩
 obtain⟨M,m',t',hr',hd⟩:=hbw w'.drawn ((gs1.map (woken P g g' w')).setIfInBounds 0 g') sl2 (t1++MemOp.ofEvents 0 g.frame.fn g.frame.place es) q1 (max B w'.heap.size) (by rw[Sn (by simpa using hpos)]) (hL1.own hpos _ _ es)
  ((hP1.mono (Z5 _ _)).own hlow') (J9 _ _)
 refine⟨N+(1+M),m',t',?_,hd⟩;rw[runNT_add,hr];show runNT P (1+M) _ _=_;rw[runNT_add];simp only[runNT,hst,hrunT];exact hr'
theorem aaj{fr:Frame}{cs base:List Frame}(ht:GT P L K S Φ fr cs w)(hi:UQ P L K O0 fr cs)(h:∀ fr' cs' w',(∀ τ d,Φ fr' cs' (tp w' τ d))->BW P (G fr' (cs'++base)) w' Ψ):BW P (G fr (cs++base)) w Ψ:=by
 induction ht with
 | stop hq=>exact h _ _ _ hq
 | @step fr cs w hn hf fr' cs' w' hst ht ih =>
  refine QV rfl fun d=>?_
  have h1:=hst w.tape d;have h2:=h1.eqT O0 base true w.tape d (.inl rfl) hi (fun i _=>rfl);rw[yj,yj,yD,yD] at h2;obtain⟨hi',es,he,hev⟩:=h2;have e:tp (w' w.tape d) w.tape (d+((w' w.tape d).drawn-(tp w w.tape d).drawn))=w' w.tape d:=by
   have hd':d<=(w' w.tape d).drawn:=h1.drawn;have ht':(w' w.tape d).tape=w.tape:=h1.tape;generalize w' w.tape d=W at hd' ht';show({W with tape:=w.tape,drawn:=d+(W.drawn-d)}:World)=_;rw[show d+(W.drawn-d)=W.drawn by omega,<-ht']
  rw[e] at he;exact⟨_,_,es,he,h1.size,fun e he=>XY (hev e he),ih w.tape d hi'⟩
end
theorem PY{P:Program}{fr:Frame}{w:World}{e:Ending}(h:fr.leaving P w e)(τ:Nat->Question->Nat)(d:Nat):fr.leaving P (tp w τ d) e:=by
 cases e with
 | returned v =>
  obtain⟨h1,h2,h3,fn,h4,h5⟩:=h;exact⟨h1,h2,h3,fn,h4,Cc.jX (f:=0) h5 τ d⟩
 | panicked ch=>exact h
 | outgrown=>trivial
def ab2(P:Program):Ending->Prop
 | .returned _=>True
 | .panicked ch=>∀ v g,ch=[{v,recovered:=false,goexit:=g}]->¬ Uz P v
 | .outgrown=>False
theorem Pw{P:Program}{L:FuncId->Bool}{K:Op->Bool}{S:Nat->Prop}(hK:vB P L K)(hL:∀ f,L f=true->fK P f)(hT:Tk P L K){D:Nat->Prop}{f:FuncId}{args:Array Value}{w:World}{Rr:Ending->World->Prop}(hs:Self P L K true S D (Frame.enter P f args .normal) [] w)(hC:∀ τ d,Calls P f args (tp w τ d) Rr)(hE:∀ e w,Rr e w->ab2 P e)(hR:∀ e w τ d,Rr e w->Rr e (tp w τ d)):GT P L K S (fun fr cs w'=>(cs=[]/\fr.fn=f/\∃ e,Rr e w'/\ab2 P e/\fr.leaving P w' e)/\∃ D',Self P L K true S D' fr cs w'/\∀ a,D a->D' a) (Frame.enter P f args .normal) [] w:=by
 refine Bo hK hL hT hs (fun τ d=>?_) fun fr cs w τ d ⟨h1,h2,e,h3,h4,h5⟩=>⟨h1,h2,e,hR e w τ d h3,h4,PY h5 τ d⟩
 obtain⟨e,w',fr,hRe,hcomes,hfn,hleave⟩:=hC τ d [c0];have hEe:=hE e w' hRe;have hst:Steps P (lone (Frame.enter P f args .normal) [c0] (tp w τ d)) (lone fr [c0] w'):=by
  cases e with
  | returned v=>exact hcomes
  | panicked ch=>exact hcomes
  | outgrown=>exact hEe.elim
 refine⟨fr,[],w',hst,⟨rfl,hfn,e,hRe,hEe,hleave⟩,?_⟩;rintro⟨v,g,hm,hb⟩
 cases e with
 | returned u=>rw[hleave.1] at hm;cases hm
 | panicked ch =>
  rw[hleave.1] at hm
  cases hm
  exact hEe v g rfl hb
 | outgrown=>exact hEe.elim
end Sr
end
section
open Go.Conc
open Cc (tp Ai BW EA c0)
namespace Sr
def gB(P:Program)(Q:Exit->Act->World->Prop):List Code->Act->World->Prop
 | [],a,w=>Q .normal a w
 | c::l,a,w=>c.wp P (Exit.then (gB P Q l) Q) a w
def uE(P:Program):Exit->Prop
 | .normal|.ret=>True
 | .panic ch=>∀ v g,ch=[{v,recovered:=false,goexit:=g}]->¬ Uz P v
 | _=>False
def oN(b:Frame)(r:Code ⊕ Nat)(k:List Item):Exit->Act->Frame->Prop
 | .normal,a,fr=>fr=b.at a (fQ r []::k)
 | .ret,a,fr=>∃ todo,fr={b.at a todo with mode:=.returning}
 | .panic ch,a,fr=>∃ todo,fr={b.at a todo with mode:=.panicking ch}
 | _,_,_=>False
theorem QB{P:Program}{Q:Exit->Act->World->Prop}(hE:∀ e a w,Q e a w->uE P e):∀ {l:List Code}{a:Act}{w:World},gB P Q l a w->∀ b r k cs,∃ e a' fr w',Q e a' w'/\oN b (.inl r) k e a' fr/\Steps P (lone (b.at a (.code (dR l r)::k)) cs w) (lone fr cs w')
 | [],a,w,h,b,r,k,cs=>⟨.normal,a,_,w,h,rfl,Steps.refl P _⟩
 | c::l,a,w,h,b,r,k,cs=>by
  obtain⟨e,Δ,ω,hq,harr⟩:=h b (.code (dR l r)::k) cs;have s0:Steps P (lone (b.at a (.code (dR (c::l) r)::k)) cs w) (lone (b.at a (.code c::.code (dR l r)::k)) cs w):=.one step_seq
  cases e with
  | normal =>
   obtain⟨e₂,a₂,fr,ψ,hq₂,hat,hst⟩:=QB hE (show gB P Q l Δ ω from hq) b r k cs;exact⟨e₂,a₂,fr,ψ,hq₂,hat,s0.trans (Steps.trans harr hst)⟩
  | exit id=>exact(hE _ _ _ hq).elim
  | goto l=>exact(hE _ _ _ hq).elim
  | ret=>obtain⟨todo,hst⟩:=harr;exact⟨.ret,Δ,_,ω,hq,⟨todo,rfl⟩,s0.trans hst⟩
  | panic ch=>obtain⟨todo,hst⟩:=harr;exact⟨.panic ch,Δ,_,ω,hq,⟨todo,rfl⟩,s0.trans hst⟩
  | outgrown=>exact(hE _ _ _ hq).elim
structure bU(P:Program)(L:FuncId->Bool)(S:Nat->Prop)(D:Nat->Prop)(t:Array Value)(w:World):Prop where
 off:∀ b,S b->¬ D b/\b<w.heap.size
 gb:GB P (mQ D)
 bnd:∀ a,D a->a<w.heap.size
 heap:HR (mQ D) L w.heap w.heap
 tmps:AV (mQ D) L t t
theorem bU.tp{P:Program}{L:FuncId->Bool}{S D:Nat->Prop}{t:Array Value}{w:World}(h:bU P L S D t w)(τ:Nat->Question->Nat)(d:Nat):bU P L S D t (Cc.tp w τ d):=⟨h.off,h.gb,h.bnd,h.heap,h.tmps⟩
theorem bU.self{P:Program}{L:FuncId->Bool}{K:Op->Bool}{S D:Nat->Prop}{a:Act}{w:World}(h:bU P L S D a.tmps w){b:Frame}(hb:b.kind=.normal)(ha:a.defers=[]){t:List Item}(hi:Items P L K [] t):Self P L K true S D (b.at a t) [] w :=⟨h.off,h.gb,h.bnd,h.heap,.bot ⟨rfl,⟨_,h.tmps,rfl⟩,rfl,hi,⟨a.defers,(Qq _).symm,by show DL _ _ a.defers a.defers;rw[ha];exact .nil⟩,.run,rfl,.inl hb,.inl hb,rfl,rfl⟩ hb (fun _=>ha) fun z=>by cases z⟩
theorem BP{P:Program}{L:FuncId->Bool}{K:Op->Bool}{S:Nat->Prop}(hK:vB P L K)(hL:∀ f,L f=true->fK P f)(hT:Tk P L K){D:Nat->Prop}{b:Frame}{a:Act}{l:List Code}{w:World}{Q:Exit->Act->World->Prop}(hs:Self P L K true S D (b.at a [.code (dR l (.refuse ""))]) [] w)(hC:∀ τ d,gB P Q l a (tp w τ d))(hE:∀ e a w,Q e a w->uE P e)(hQ:∀ e a w τ d,Q e a w->Q e a (tp w τ d)):GT P L K S (fun fr cs w'=>(cs=[]/\∃ e a',Q e a' w'/\oN b (.inl (.refuse "")) [] e a' fr)/\∃ D',Self P L K true S D' fr cs w'/\∀ a,D a->D' a) (b.at a [.code (dR l (.refuse ""))]) [] w:=by
 refine Bo hK hL hT hs (fun τ d=>?_) fun fr cs w τ d ⟨h1,e,a',h2,h3⟩=>⟨h1,e,a',hQ e a' w τ d h2,h3⟩
 obtain⟨e,a',fr,w',hq,hat,hst⟩:=QB hE (hC τ d) b (.refuse "") [] [c0];refine⟨fr,[],w',hst,⟨rfl,e,a',hq,hat⟩,?_⟩;have hok:=hE e a' w' hq;rintro⟨v,g,hm,hb⟩
 cases e with
 | normal=>cases hat;cases hm
 | ret=>obtain⟨todo,rfl⟩:=hat;cases hm
 | panic ch =>
  obtain⟨todo,rfl⟩:=hat;have hm:FrameMode.panicking ch=.panicking [{v,recovered:=false,goexit:=g}]:=hm
  cases hm
  exact hok v g rfl hb
 | _=>exact hat.elim
section
variable {P:Program}{L:FuncId->Bool}{K:Op->Bool}{S:Nat->Prop}{Φ Ψ:Frame->List Frame->World->Prop}{fr:Frame}{cs:List Frame}{w:World}
theorem GW.zl(h:GW P L S Φ fr cs w)(τ:Nat->Question->Nat)(d:Nat):GW P L S Φ fr cs (Cc.tp w τ d):=by
 cases h with
 | stop h=>exact .stop fun jH d'=>h jH d'
 | step hn hne fr' cs' w' es h hq ht=>exact .step hn hne fr' cs' w' es (fun jH d'=>h jH d') hq ht
theorem GW.ctl{fr':Frame}{cs':List Frame}(hok:dS P L false fr)(hne:cs=[]->fr.mode=.run\/fr.defers≠[])(h:∀ w,stepG P false (G fr cs) w=.go (G fr' cs') w #[])(hn:GW P L S Φ fr' cs' w):GW P L S Φ fr cs w :=GW.step' hok hne fun τ d=>⟨fr',cs',_,#[],h _,.nil,hn.zl τ d⟩
theorem sZ{D:Nat->Prop}{fr:Frame}(h:Self P L K true S D fr [] w):bU P L S D fr.tmps w/\fr.defers=[]:=by
 refine⟨⟨h.off,h.gb,h.bnd,h.heap,?_⟩,?_⟩
 .cases h.sl with
  | bot h _ _ _=>obtain⟨tm,h1,h2⟩:=h.tmps;have h2:fr.tmps=tm:=h2;rw[<-h2] at h1;exact h1
 .cases h.sl with
  | bot _ _ hz _=>exact hz rfl
end
end Sr
end
section
open Go.Conc
namespace Sr
def tk(P:Program)(L:FuncId->Bool)(o:Op):Bool:=bT P L o&&match o with
 | .defer _|.select ..=>false
 | .call c=>match c.callee with
  | .builtin .recover=>false
  | _=>true
 | _=>true
theorem afG(P:Program)(L L':FuncId->Bool)(hm:∀ o,bT P L o=true->bT P L' o=true):Tk P L' (tk P L):=by
 intro o h;unfold tk at h;rw[fE] at h;refine⟨hm _ h.1,fun c e=>?_,fun c b e=>?_,fun c e e'=>?_⟩
 .subst e;exact absurd h.2 (by simp)
 .subst e;exact absurd h.2 (by simp)
 .subst e;have:=h.2;simp only[e'] at this
  cases this
def abj(P:Program)(L:List FuncId)(K:Op->Bool):Bool:=L.all fun f=>match P.funcs[f]? with
 | some fn=>match fn.body with
  | some c=>kg P L.contains K [] c
  | none=>true
 | none=>true
theorem VB{P:Program}{L:List FuncId}{K:Op->Bool}(h:abj P L K=true):vB P L.contains K:=by
 intro f hf fn c hfn hb;unfold abj at h;rw[Ej] at h;have:=h f (by simpa using hf);rw[hfn] at this;simp only[hb] at this;exact this
def fnB(P:Program)(L:List FuncId):Bool:=L.all fun f=>match P.funcs[f]? with
 | some fn=>!(fn.name == "runtime.NumGoroutine")&&fn.body.isSome
 | none=>false
theorem Jw{P:Program}(few:P.funcs.size<=1000000000){L M:List FuncId}(h:fnB P L=true)(hM:∀ f∈M,fK P f):∀ f,(L++M).contains f=true->fK P f:=by
 intro f hf;have hf:f∈L++M:=by simpa using hf
 rcases UY.1 hf with hf|hf
 .unfold fnB at h;rw[Ej] at h;have:=h f hf
  cases hfn:P.funcs[f]? with
  | none=>rw[hfn] at this;cases this
  | some fn =>
   rw[hfn] at this;simp only[fE,Bool.not_eq_true'] at this;obtain⟨c,hc⟩:=qbM.1 this.2;refine⟨.inr ⟨fn,hfn,this.1,.inl ⟨c,hc⟩⟩,fun t e=>?_⟩;have h1:f<P.funcs.size:=(fT.1 hfn).1;subst e;have h1:2*t+1000000000<P.funcs.size:=h1;omega
 .exact hM f hf
section
variable {P:Program}{L L':FuncId->Bool}
theorem bE(h:∀ f,L f=true->L' f=true){x:Operand}(hx:jL P L x=true):jL P L' x=true:=by
 cases x <;> first|exact hx|exact h _ hx
theorem xg(h:∀ f,L f=true->L' f=true){l:List Operand}(hl:l.all (jL P L)=true):l.all (jL P L')=true:=by
 rw[Ej] at hl ⊢;exact fun x hx=>bE h (hl x hx)
theorem wu(h:∀ f,L f=true->L' f=true){x:Option Operand}(hx:okO P L x=true):okO P L' x=true:=by
 cases x with
 | none=>rfl
 | some x=>exact bE h hx
theorem Ew(h:∀ f,L f=true->L' f=true){ps:Array (Nat×Operand)}(hp:qI P L ps=true):qI P L' ps=true:=by
 unfold qI at hp ⊢;rw[Ej] at hp ⊢;exact fun x hx=>bE h (hp x hx)
theorem FL(h:∀ f,L f=true->L' f=true){c:Call}(hc:pY P L c=true):pY P L' c=true:=by
 unfold pY at hc ⊢;rw[fE] at hc ⊢;refine⟨xg h hc.1,?_⟩;have h2:=hc.2
 cases hcc:c.callee with
 | value f=>rw[hcc] at h2;exact bE h h2
 | invoke r m=>rw[hcc] at h2;exact h2
 | builtin b=>rw[hcc] at h2;cases b <;> exact h2
theorem IC(h:∀ f,L f=true->L' f=true){c:Call}(hc:uw P L c=true):uw P L' c=true:=by
 unfold uw at hc ⊢;rw[fE] at hc ⊢;refine⟨xg h hc.1,?_⟩;have h2:=hc.2
 cases hcc:c.callee with
 | value f=>rw[hcc] at h2;exact bE h h2
 | invoke r m=>rw[hcc] at h2;exact h2
 | builtin b=>rfl
theorem Gz(h:∀ f,L f=true->L' f=true)(ht:∀ t:Nat,L' (2*t+1000000000)=true->L (2*t+1000000000)=true){o:Op}(ho:bT P L o=true):bT P L' o=true:=by
 cases o with
 | call c=>exact FL h ho
 | defer c=>exact IC h ho
 | select cs b =>
  simp only[bT,Ej,fE] at ho ⊢;exact fun s hs=>⟨⟨bE h (ho s hs).1.1,wu h (ho s hs).1.2⟩,(ho s hs).2⟩
 | makeMap t r=>cases r <;> first|rfl|exact ho
 | makeFunc fn a b =>
  simp only[bT,fE] at ho ⊢;refine⟨⟨xg h ho.1.1,xg h ho.1.2⟩,?_⟩
  cases fn <;> first|exact h _ ho.2|exact ho.2
 | build t ps=>simp only[bT,fE] at ho ⊢;exact⟨ho.1,Ew h ho.2⟩
 | buildSlice t n ps=>simp only[bT,fE] at ho ⊢;exact⟨Ew h ho.1,ho.2⟩
 | slice t x lo hi mx=>simp only[bT,fE] at ho ⊢;exact⟨⟨⟨bE h ho.1.1.1,wu h ho.1.1.2⟩,wu h ho.1.2⟩,wu h ho.2⟩
 | alloc t=>exact ho
 | pick a b c=>simp only[bT,fE] at ho ⊢;exact⟨⟨bE h ho.1.1,bE h ho.1.2⟩,bE h ho.2⟩
 | store t a x=>simp only[bT,fE] at ho ⊢;exact⟨bE h ho.1,bE h ho.2⟩
 | binOp b t x y t2=>simp only[bT,fE] at ho ⊢;exact⟨bE h ho.1,bE h ho.2⟩
 | convert s d x=>simp only[bT,fE] at ho ⊢;exact⟨ho.1,bE h ho.2⟩
 | makeSlice t n c=>simp only[bT,fE] at ho ⊢;exact⟨⟨bE h ho.1.1,bE h ho.1.2⟩,ho.2⟩
 | indexAddr t x i=>simp only[bT,fE] at ho ⊢;exact⟨bE h ho.1,bE h ho.2⟩
 | index t x i=>simp only[bT,fE] at ho ⊢;exact⟨bE h ho.1,bE h ho.2⟩
 | lookup t x i c=>simp only[bT,fE] at ho ⊢;exact⟨⟨bE h ho.1.1,bE h ho.1.2⟩,ho.2⟩
 | mapUpdate t m k x=>simp only[bT,fE] at ho ⊢;exact⟨⟨⟨bE h ho.1.1.1,bE h ho.1.1.2⟩,bE h ho.1.2⟩,ho.2⟩
 | typeAssert x t a ok =>
  simp only[bT,fE] at ho ⊢;refine⟨⟨⟨ho.1.1.1,bE h ho.1.1.2⟩,ho.1.2⟩,?_⟩
  cases hl:L' (2*a+1000000000) with
  | false=>rfl
  | true=>have:=ho.2;rw[ht a hl] at this;cases this
 | _=>first|exact bE h ho|exact ho
theorem OE(h:∀ f,L f=true->L' f=true)(ht:∀ t:Nat,L' (2*t+1000000000)=true->L (2*t+1000000000)=true){Z:Bool}{fr:Frame}(hn:dS P L Z fr):dS P L' Z fr:=by
 unfold dS at hn ⊢
 cases hm:fr.mode with
 | run =>
  rw[hm] at hn;exact fun ops i l k o h1 h2 h3=>⟨Gz h ht (hn ops i l k o h1 h2 h3).1,(hn ops i l k o h1 h2 h3).2⟩
 | returning=>rw[hm] at hn;exact hn
 | panicking ch=>rw[hm] at hn;exact hn
theorem jQ(h:∀ f,L f=true->L' f=true){K:Op->Bool}{l:List (Nat×Value)}:∀ {c:Code},kg P L K l c=true->kg P L' K l c=true
 | .skip,_|.exit _,_|.label _,_|.goto _,_|.ret,_|.refuse _,_=>rfl
 | .region _ ops _,hc=>hc
 | .seq a b,hc=>by
  unfold kg at hc ⊢;rw[fE] at hc ⊢;exact⟨jQ h hc.1,jQ h hc.2⟩
 | .cond c a b,hc=>by
  unfold kg at hc ⊢;simp only[fE] at hc ⊢;exact⟨⟨⟨bE h hc.1.1.1,hc.1.1.2⟩,jQ h hc.1.2⟩,jQ h hc.2⟩
 | .block _ a,hc=>by unfold kg at hc ⊢;exact jQ h hc
 | .loop a,hc=>by unfold kg at hc ⊢;exact jQ h hc
 | .scope a,hc=>by unfold kg at hc ⊢;exact jQ h hc
 | .rangeFunc ..,hc=>by cases hc
theorem GW.mono{S:Nat->Prop}{Φ:Frame->List Frame->World->Prop}(h:∀ f,L f=true->L' f=true)(hty:∀ t:Nat,L' (2*t+1000000000)=true->L (2*t+1000000000)=true){fr:Frame}{cs:List Frame}{w:World}(hg:GW P L S Φ fr cs w):GW P L' S Φ fr cs w:=by
 induction hg with
 | stop h=>exact .stop h
 | step hn hne fr' cs' w' es hs hq ht ih=>exact .step (OE h hty hn) hne fr' cs' w' es hs hq ih
end
end Sr
end
section
section
variable {P:Program}{ops:Array Oper}{rest:List Oper}{o:Oper}{a:Act}{w:World}{Q:Exit->Act->World->Prop}
theorem Ko(hg:o.guard=none)(w':World)(h:(execOp a.eval o).run P w=.ok .skip w')(hk:wpList P ops Q rest (a.put o.dst au) w'):wpList P ops Q (o::rest) a w :=wpList_plain hg fun K hK=>by unfold Oper.wp;rw[h];exact hK _ _ hk
theorem wpList_store_row(hgd:o.guard=none)(ty:TypeId)(x y:Operand)(ho:o.op=.store ty x y)(g:Nat)(hx:a.eval x=.pointer (some ⟨g,0,none⟩))(cs:Array Value)(hy:a.eval y=.agg cs)(old:Array Value)(t:TypeId)(hh:w.heap[g]? = some (.cells old t (0,0)))(hsz:old.size=cs.size)(hi:(P.info? ty).map (·.size)=some cs.size)(h1:∀ u∈cs.toList,u.oneCell'=true)(h:wpList P ops Q rest (a.put o.dst au) (w.setRow g cs)):wpList P ops Q (o::rest) a w:=by
 refine Ko hgd (w.setRow g cs) ?_ h;obtain⟨i,hi',hs'⟩:=zA.1 hi;have hr:=run_storeCells_at (P:=P) g 0 t cs.toList 0 old w hh (by simp[hsz]) h1;have e:(old.toList.take (0+0)++cs.toList++old.toList.drop (0+0+cs.toList.length)).toArray=cs:=by
  simp[qa9,hsz]
 rw[e] at hr;simp[execOp,ho,hx,hy,Instr.storeAt,Instr.sureAddr,storeVar,sizeOf,typeInfo,hi',hs',Value.cells,hr,Result.andThen]
theorem bV(hgd:o.guard=none)(t:TypeId)(ho:o.op=.alloc t)(z:Array Value)(hz:(P.info? t).bind (·.zero)=some (.agg z))(h:wpList P ops Q rest (a.put o.dst (.pointer (some ⟨w.heap.size,0,none⟩))) (w.alloc (.cells z t))):wpList P ops Q (o::rest) a w:=by
 refine bI hgd _ _ ?_ h;obtain⟨i,hi,h0⟩:=qbc.1 hz;simp[execOp,ho,Instr.alloc,zeroValue,typeInfo,hi,h0,newVar,newRow,Value.cells,Result.andThen]
theorem CO(hgd:o.guard=none)(t:TypeId)(ho:o.op=.build t #[])(z:Array Value)(hz:∀ w,(Instr.build t #[]).run P w=.ok (.agg z) w)(h:wpList P ops Q rest (a.put o.dst (.agg z)) w):wpList P ops Q (o::rest) a w:=by
 refine bI hgd _ _ ?_ h;simp[execOp,ho,hz,Result.andThen]
theorem dO(hgd:o.guard=none)(t:TypeId)(x:Operand)(ho:o.op=.box t x)(cs:Array Value)(hx:a.eval x=.agg cs)(h:wpList P ops Q rest (a.put o.dst (.pointer (some ⟨w.heap.size,0,none⟩))) (w.alloc (.cells cs t))):wpList P ops Q (o::rest) a w:=by
 refine bI hgd _ _ ?_ h;simp[execOp,ho,hx,Instr.box,newVar,newRow,Value.cells,Result.andThen]
theorem qQ(w:World)(z cs:Array Value)(t:TypeId):(w.alloc (.cells z t)).setRow w.heap.size cs=w.alloc (.cells cs t):=by
 unfold World.setRow World.alloc;congr 1;apply qcv;intro k;simp only[qa3,Qi];by_cases hk:w.heap.size=k
 .subst hk;simp
 .have hk2:¬ k=w.heap.size:=fun h=>hk h.symm
  simp[hk,hk2]
theorem kC(hgd:o.guard=none)(ty:TypeId)(x y:Operand)(ho:o.op=.store ty x y){w0:World}{old:Array Value}{t:TypeId}(b:Nat)(hx:a.eval x=.pointer (some ⟨b,0,none⟩))(cs:Array Value)(hy:a.eval y=.agg cs)(hb:w0.heap.size=b)(hsz:old.size=cs.size)(hi:(P.info? ty).map (·.size)=some cs.size)(h1:∀ u∈cs.toList,u.oneCell'=true)(h:wpList P ops Q rest (a.put o.dst au) (w0.alloc (.cells cs t))):wpList P ops Q (o::rest) a (w0.alloc (.cells old t)):=by
 subst hb;refine wpList_store_row hgd ty x y ho w0.heap.size hx cs hy old t (heap_alloc_new w0 _) hsz hi h1 ?_;rw[qQ];exact h
theorem Below.setRow{B:Nat}{a w:World}(h:Below B a w){g:Nat}(hg:B<=g)(cs:Array Value):Below B a (w.setRow g cs) :=h.trans ⟨rfl,rfl,rfl,by simp,fun k hk=>setRow_other w g k cs (by omega)⟩
theorem VQ{w w':World}{base:Nat}{e:TypeId}{sz:Nat}{v:Value}{n:Nat}{xs:List Value}(h:w.ownsRow base e sz v n xs)(hk:∀ k,base<=k->k<w.heap.size->w'.heap[k]? = w.heap[k]?):w'.ownsRow base e sz v n xs:=by
 obtain⟨h1,h2⟩:=h;refine⟨h1,?_⟩;rcases h2 with h2|⟨g,cap,cur,hv,hg,hh,r⟩
 .exact Or.inl h2
 .exact Or.inr ⟨g,cap,cur,hv,hg,by rw[hk g hg (fT.1 hh).1];exact hh,r⟩
theorem akX{w:World}{base base':Nat}{e:TypeId}{sz:Nat}{v:Value}{n:Nat}{xs:List Value}(h:w.ownsRow base e sz v n xs)(hb:base'<=base):w.ownsRow base' e sz v n xs:=by
 obtain⟨h1,h2⟩:=h;refine⟨h1,?_⟩;rcases h2 with h2|⟨g,cap,cur,hv,hg,hh,r⟩
 .exact Or.inl h2
 .exact Or.inr ⟨g,cap,cur,hv,by omega,hh,r⟩
end
end
section
section
variable {P:Program}{ops:Array Oper}{rest:List Oper}{o:Oper}{a:Act}{w:World}{Q:Exit->Act->World->Prop}{K:Act->World->Prop}
theorem foldl_set(k:Nat):∀ (l:List Value)(i:Nat)(z:Array Value),k+i+l.length<=z.size -> (l.zipIdx i).foldl (fun (cs:Array Value)(p:Value×Nat)=>cs.setIfInBounds (k+p.2) p.1) z=(z.toList.take (k+i)++l++z.toList.drop (k+i+l.length)).toArray
 | [],i,z,_=>by simp
 | v::l,i,z,h=>by
  have hi:k+i<z.toList.length:=by simp at h ⊢;omega
  rw[List.zipIdx_cons,Xu,foldl_set k l (i+1) _ (by simp at h ⊢;omega)];congr 1;have e:=list_seg_step z.toList (k+i) v l (by simp at h ⊢;omega);simpa[Array.toList_setIfInBounds,Zu] using e
theorem fill_whole(z cs:Array Value)(sz:Nat)(hz:z.size=sz)(hc:cs.size=sz):Instr.fill (fun i=>some (i*sz,sz)) z [(0,.agg cs)]=some cs:=by
 have h:=foldl_set 0 cs.toList 0 z (by simp;omega);have e:(z.toList.take (0+0)++cs.toList++z.toList.drop (0+0+cs.toList.length)).toArray=cs:=by
  rw[qa9 (by simp;omega)];simp
 rw[e] at h;simp only[Instr.fill,Value.cells,Nat.zero_mul,hc];rw[if_neg (by simp[hz])];congr 1;rw[<-qb4];simpa using h
theorem zo(hgd:o.guard=none)(t:TypeId)(x:Operand)(ho:o.op=.buildSlice t 1 #[(0,x)]){e:TypeId}{z:Array Value}(ht:P.underlying t=some (.slice e))(cs:Array Value)(hi:(P.info? e).map (fun i=>(i.zero,i.size))=some (some (.agg z),cs.size))(hzs:z.size=cs.size)(hpos:0<cs.size)(hlim:cs.size<=16777216)(hx:a.eval x=.agg cs)(h:wpList P ops Q rest (a.put o.dst (.slice (some ⟨w.heap.size,0,none⟩) 1 1)) (w.alloc (.cells cs e))):wpList P ops Q (o::rest) a w:=by
 refine bI hgd _ _ ?_ h;obtain⟨i,hi',hh⟩:=zA.1 hi;simp only[MV] at hh;obtain⟨h0,h1⟩:=hh;have hne:¬ cs.size=0:=by omega
 have Yv:¬ 16777216<cs.size:=by omega
 have hf:=fill_whole ((Array.range (1*cs.size)).map (z[·%z.size]!)) cs cs.size (by simp) rfl;simp only[Nat.one_mul] at hf;simp[execOp,ho,hx,Instr.buildSlice,run_underlying ht,sizeOf,zeroValue,typeInfo,hi',h0,h1,hne,Yv,Value.cells,hf,newRow,Result.andThen]
theorem rX(ty:TypeId)(p:Addr)(cs:List Value)(d:TypeDesc)(hu:P.underlying ty=some d)(hd:(match d with|.struct _|.array _ _=>true|_=>false)=true)(hi:(P.info? ty).map (·.size)=some cs.length)(hc:∀ j v,cs[j]? = some v->w.cell? (p.add j)=some v):(loadVar ty p).run P w=.ok (.agg cs.toArray) w:=by
 obtain⟨i,hi',hs⟩:=zA.1 hi;have hl:=run_loadCells_list (P:=P) w p cs hc;have hagg:(isAgg ty).run P w=.ok true w:=by
  unfold isAgg;rw[Sem.run_bind,run_underlying hu w]
  cases d <;> simp_all
 simp[loadVar,hagg,sizeOf,typeInfo,hi',hs,hl,Result.andThen]
end
end
section
open Go.Conc
namespace Cc
section
variable {P:Program}{main:Bool}{R:World->World->Prop}{D:World->World->Array Event->Prop}{Stop:Goroutine->World->Prop}{b:Frame}{a:Act}{k:List Item}{cs:List Frame}{w:World}{ops:Array Oper}{i:Nat}{rest:List Nat}{o:Oper}{n:Nat}
end
section
variable {P:Program}{main:Bool}{R:World->World->Prop}{D:World->World->Array Event->Prop}{Stop:Goroutine->World->Prop}{b:Frame}{a:Act}{k:List Item}{cs:List Frame}{w:World}{ops:Array Oper}{i:Nat}{rest:List Nat}{o:Oper}{n:Nat}
theorem Iq{x:Operand}(hop:o.op=.move x)(w:World):(execOp a.eval o).run P w=.ok (.value (a.eval x)) w/\(execOp a.eval o).events P w #[]=#[]:=by
 unfold execOp;simp only[hop];exact⟨rfl,rfl⟩
theorem ze{x:Operand}(hop:o.op=.assign x)(w:World):(execOp a.eval o).run P w=.ok (.value (a.eval x)) w/\(execOp a.eval o).events P w #[]=#[]:=by
 unfold execOp;simp only[hop];exact⟨rfl,rfl⟩
theorem eP{x:Operand}{j:Nat}{vs:Array Value}{v:Value}(hop:o.op=.extract x j)(hx:a.eval x=.tuple vs)(hv:vs[j]? = some v)(w:World):(execOp a.eval o).run P w=.ok (.value v) w/\(execOp a.eval o).events P w #[]=#[]:=by
 unfold execOp;simp[hop,hx,Instr.extract,hv,Result.andThen]
