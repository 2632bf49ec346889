/- J07 -/
import Derived.Test.YtdbgldieilgnmaaGreatDoorJ06
import Derived.Test.YtdbgldieilgnmaaGreatDoorJ05
import Derived.Conc.FxBegin
import Derived.Conc.TokenWalk
set_option linter.unusedVariables false
set_option linter.unusedSimpArgs false
set_option maxHeartbeats 8000000
set_option maxRecDepth 100000
namespace Go.Proofs.YtdbgldieilgnmaaGreatDoor
section
open Go.Conc
namespace Cc
section
variable {P:Program}{L:List FuncId}
theorem Nw(v:Value):ok P T (asAddr v):=by
 unfold asAddr;split
 .exact ay _
 .exact bF _
 .exact aA _
theorem K7{α β:Type}{f:α->Sem β}(h:∀ a,ok P T (f a)):∀ l:List α,ok P T (l.mapM f)
 | []=>by rw[qbs];exact ay _
 | a::l=>by
  rw[qbj];exact aC (h a) fun b=>aC (K7 h l) fun bs=>ay _
theorem kS(fn:Func)(tmps:Array Value):ok P T (results fn tmps):=by
 unfold results;rw[qaP];refine aC (NG (K7 (fun r=>?_) _)) fun vs=>ay _
 cases r with
 | tmp t=>exact ay _
 | cell a t=>exact aC (Nw _) fun a=>BU _ _
theorem QN{fn:FuncId}{tmps:Array Value}{todo:List Item}{w:World}(hfn:(P.funcs[fn]?).isSome=true):∃ n,(∃ v w' es,w'.drawn=w.drawn+n/\w'.tape=w.tape/\w.heap.size<=w'.heap.size/\(∀ e∈es,Low w'.heap.size e)/\∀ c B τ d,(∀ i,i<n->τ (d+i)=w.tape (w.drawn+i))->stepG P true (G (R fn tmps todo) (c::B)) (tp w τ d)=.go (G (c.finish v) B) (tp w' τ (d+n)) es) \/
   (∀ c B τ d,(∀ i,i<n->τ (d+i)=w.tape (w.drawn+i))->∃ o w' es,stepG P true (G (R fn tmps todo) (c::B)) (tp w τ d)=.ended o w' es):=by
 obtain⟨f,hf⟩:=qbM.1 hfn;obtain⟨n,r,es',hr⟩:=dZ (kS (P:=P) f tmps) w #[];have hlow:=qR hr.low;have hun:∀ c B w,stepG P true (G (R fn tmps todo) (c::B)) w=unwind P true (R fn tmps todo) (c::B) none w:=fun c B w=>by simp[stepG,R,G]
 refine⟨n,?_⟩
 cases r with
 | ok v w' =>
  refine .inl ⟨v,w',seen P fn es',hr.drawn,hr.tape,hr.size,fM hlow,fun c B τ d ht=>?_⟩;have e:(results f tmps).runT P (tp w τ d) #[]=(.ok v (tp w' τ (d+n)),es'):=hr.nat τ d ht;rw[hun];unfold unwind;simp only[R,hf,e];simp[GStep.after,doReturn,G]
 | halt h w' =>
  refine .inr fun c B τ d ht=>?_
  have e:(results f tmps).runT P (tp w τ d) #[]=(.halt h (tp w' τ (d+n)),es'):=hr.nat τ d ht;rw[hun];unfold unwind;simp only[R,hf,e]
  cases h <;> exact⟨_,_,_,rfl⟩
theorem WC{fn:FuncId}{tmps:Array Value}{todo:List Item}{c:Frame}{cs:List Frame}{w:World}(hfn:(P.funcs[fn]?).isSome=true)(hcs:∀ x∈c::cs,MQ P L x):DX P L (R fn tmps todo) (c::cs) w:=by
 obtain⟨n,h⟩:=QN (P:=P) (tmps:=tmps) (todo:=todo) (w:=w) hfn;rcases h with⟨v,w',es,h1,h2,h3,h4,h5⟩|h
 .obtain⟨g,t,k,rfl,hg,hk⟩:=hcs c (by simp);obtain⟨t',k',e1,e2⟩:=xY (L:=L) g t hk v;exact .go n _ cs w' es ⟨fun B τ d ht=>h5 _ _ τ d ht,h1,h2,h3,h4⟩ (.inl ⟨g,t',k',e1,hg,e2⟩) fun x hx=>hcs x (by simp[hx])
 .exact .ended n fun B τ d ht=>h _ _ τ d ht
theorem LK{fr c:Frame}{B:List Frame}{w:World}(h:Pan P fr):∃ ch,stepG P true (G fr (c::B)) w=.go (G (c.raise ch) B) w #[]:=by
 obtain⟨⟨ch,h1⟩,h2,h3⟩:=h;obtain⟨f,hf⟩:=qbM.1 h3;refine⟨ch,?_⟩;obtain⟨fn,tmps,todo,defers,mode,kind,ro⟩:=fr;simp only at h1 h2 h3 hf;subst h1 h2;have hc:Frame.catches P {fn:=fn,tmps:=tmps,todo:=todo,defers:=[],mode:=.panicking ch,kind:=kind,roundOf:=ro}=false:=by
  unfold Frame.catches;simp only[hf]
 simp[stepG,G,unwind,hc]
theorem RD{c:Frame}(h:MQ P L c)(ch:List PanicEntry):Pan P (c.raise ch):=by
 obtain⟨fn,tmps,todo,rfl,h1,_⟩:=h;exact⟨⟨ch,rfl⟩,rfl,h1⟩
def c0:Frame:={fn:=0,tmps:=#[],todo:=[.code (.refuse "")],defers:=[{target:=.nil,args:=#[]}],mode:=.run,kind:=.normal}
theorem jN{fr fr':Frame}{cs cs':List Frame}{w w':World}{es:Array Event}(h:stepG P true (G fr cs) w=.go (G fr' cs') w' es):step P (lone fr cs w)=.next (lone fr' cs' w') :=step_lone_go (by rw[show({frame:=fr,callers:=cs,status:=.running,dying:=none}:Goroutine)=G fr cs from rfl,h];rfl)
theorem eB{fr:Frame}{cs:List Frame}{w w':World}{o:Outcome}{es:Array Event}(h:stepG P true (G fr cs) w=.ended o w' es):step P (lone fr cs w)=.ended o w' :=step_lone_ended (by rw[show({frame:=fr,callers:=cs,status:=.running,dying:=none}:Goroutine)=G fr cs from rfl,h];rfl)
def GR(P:Program)(m:Machine):Prop:=∀ N fr w',runN P N m=.next (lone fr [c0] w')->fr.mode=.returning->False
theorem lS{fr fr':Frame}{cs cs':List Frame}{w w':World}(h:lone fr cs w=lone fr' cs' w'):fr=fr'/\cs=cs'/\w=w':=by
 simp only[lone,Machine.mk.injEq,Array.mk.injEq,qbo,Goroutine.mk.injEq,and_true] at h;exact⟨h.2.1,h.2.2,h.1⟩
theorem CG{fr:Frame}{cs:List Frame}{w:World}{m:Machine}(hne:cs≠[c0]\/fr.mode≠.returning)(h:step P (lone fr cs w)=.next m)(hm:GR P m):GR P (lone fr cs w):=by
 intro N fr' w' hN hr
 cases N with
 | zero =>
  simp only[runN,Stepped.next.injEq] at hN;obtain⟨rfl,rfl,_⟩:=lS hN;rcases hne with h|h
  .exact h rfl
  .exact h hr
 | succ N =>
  simp only[runN,h] at hN;exact hm N fr' w' hN hr
theorem Gx{fr:Frame}{cs:List Frame}{w w':World}{o:Outcome}(hne:cs≠[c0]\/fr.mode≠.returning)(h:step P (lone fr cs w)=.ended o w'):GR P (lone fr cs w):=by
 intro N fr' w' hN hr
 cases N with
 | zero =>
  simp only[runN,Stepped.next.injEq] at hN;obtain⟨rfl,rfl,_⟩:=lS hN;rcases hne with h|h
  .exact h rfl
  .exact h hr
 | succ N=>simp only[runN,h] at hN;cases hN
theorem U9(v:Value)(w:World):GR P (lone (c0.finish v) [] w):=by
 refine Gx (.inl (by simp)) (eB (es:=#[]) (o:=.unsupported (.elab "") ((c0.finish v).pos P)) (w':=w) ?_);simp[stepG,stepG.exec,G,c0,Frame.finish]
theorem R7(ch:List PanicEntry)(w:World):GR P (lone (c0.raise ch) [] w):=by
 refine Gx (.inl (by simp)) (eB (es:=#[]) (o:=.unsupported (.noEntry "machine/Return: a deferred call of a nil function value, made while the frame is unwinding") (({c0 with mode:=.panicking ch,defers:=[]}:Frame).pos P)) (w':=w) ?_);simp[stepG,G,c0,Frame.raise,unwind,callDeferred]
theorem Gl{w:World}:∀ {cs:List Frame}{fr:Frame},Pan P fr->(∀ c∈cs,MQ P L c)->GR P (lone fr (cs++[c0]) w)
 | [],fr,h,_=>by
  obtain⟨ch,hs⟩:=LK (c:=c0) (B:=[]) (w:=w) h;refine CG (.inr ?_) (jN hs) (R7 ch w);obtain⟨⟨ch,h1⟩,_⟩:=h;rw[h1];simp
 | c::cs,fr,h,hcs=>by
  obtain⟨ch,hs⟩:=LK (c:=c) (B:=cs++[c0]) (w:=w) h;refine CG (.inl (by simp)) (jN hs) (Gl (RD (hcs c (by simp)) ch) fun x hx=>hcs x (by simp[hx]))
end
end Cc
end
section
open Go.Conc
namespace Sr
def mQ(D:Nat->Prop)(a b:Nat):Prop:=a=b/\D a
section
variable {P:Program}{R:Nat->Nat->Prop}{L:FuncId->Bool}{K:Op->Bool}{Z:Bool}{B dI:List Frame}
theorem VR.eq(hR:∀ a b,R a b->a=b){v w:Value}(h:VR R L v w):v=w:=by
 have arr:∀ {x y:Array Value},x.size=y.size->(∀ (i:Nat)(v w:Value),x[i]? = some v->y[i]? = some w->v=w)->x=y:=by
  intro x y hs h;refine TS hs fun i h1 h2=>?_
  exact h i _ _ (mJ h1) (mJ h2)
 have addr:∀ {a b:Addr},AR R a b->a=b:=by
  intro a b h;obtain⟨x,y,z⟩:=a;obtain⟨x',y',z'⟩:=b;obtain⟨h1,h2,h3⟩:=h;have:=hR _ _ h1;simp only at this h2 h3;subst this h2 h3;rfl
 induction h with
 | bool b=>rfl
 | int k n=>rfl
 | string s=>rfl
 | gV=>rfl
 | ptr a b h=>rw[addr h]
 | iq n c=>rfl
 | slice a b n c h=>rw[addr h]
 | fV=>rfl
 | map r s h=>rw[hR _ _ h]
 | chan r=>rfl
 | func f hf x c y d hx hxv hc hcv ih1 ih2=>rw[arr hx ih1,arr hc ih2]
 | nilFunc=>rfl
 | iface t v w h ih=>rw[ih]
 | tJ t a ht ha=>rfl
 | nilIface=>rfl
 | agg x y hx hv ih=>rw[arr hx ih]
 | tuple x y hx hv ih=>rw[arr hx ih]
theorem AV.eq(hR:∀ a b,R a b->a=b){x y:Array Value}(h:AV R L x y):x=y :=TS h.1 fun i h1 h2=>(h.2 i _ _ (mJ h1) (mJ h2)).eq hR
theorem AR.eq(hR:∀ a b,R a b->a=b){a b:Addr}(h:AR R a b):a=b:=by
 obtain⟨x,y,z⟩:=a;obtain⟨x',y',z'⟩:=b;obtain⟨h1,h2,h3⟩:=h;have:=hR _ _ h1;simp only at this h2 h3;subst this h2 h3;rfl
theorem ER.eq(hR:∀ a b,R a b->a=b){x y:MapEntry}(h:ER R L x y):x=y:=by
 obtain⟨a,b,c⟩:=x;obtain⟨a',b',c'⟩:=y;obtain⟨h1,h2,h3⟩:=h;simp only at h1 h2 h3;rw[h1.eq hR,h2.eq hR,h3]
theorem OR.eq(hR:∀ a b,R a b->a=b){x y:Obj}(h:OR R L x y):x=y:=by
 cases h with
 | cells x y e f h=>rw[h.eq hR]
 | map x y c h =>
  have:x=y:=TS h.1 fun i h1 h2=>(h.2 i _ _ (mJ h1) (mJ h2)).eq hR
  rw[this]
 | sit s p=>rfl
 | fV a s t=>rfl
 | number a b l h=>rw[h.eq hR]
 | M7 m m' h a s t=>rw[hR _ _ h]
theorem OO.eq(hR:∀ a b,R a b->a=b){x y:Option Obj}(h:OO R L x y):x=y:=by
 cases h with
 | none=>rfl
 | some h=>rw[h.eq hR]
theorem DR.eq(hR:∀ a b,R a b->a=b){x y:Deferred}(h:DR R L x y):x=y:=by
 obtain⟨t,a⟩:=x;obtain⟨t',a'⟩:=y;obtain⟨h1,h2⟩:=h;simp only at h1 h2
 cases h1 with
 | fn f hf x y h=>rw[h.eq hR,h2.eq hR]
 | nil=>rw[h2.eq hR]
 | builtin b ts t cs=>rw[h2.eq hR]
theorem DL.eq(hR:∀ a b,R a b->a=b){x y:List Deferred}(h:DL R L x y):x=y:=by
 induction h with
 | nil=>rfl
 | cons h k ih=>rw[h.eq hR,ih]
theorem PR.eq(hR:∀ a b,R a b->a=b){x y:List PanicEntry}(h:PR R L x y):x=y:=by
 induction h with
 | nil=>rfl
 | @cons x y a b hv hr hg k ih =>
  obtain⟨v,r,g⟩:=x;obtain⟨v',r',g'⟩:=y;simp only at hv hr hg;rw[hv.eq hR,hr,hg,ih]
section
variable {R':Nat->Nat->Prop}
theorem VR.fn(hR:∀ a b b',R a b->R a b'->b=b')(hO:∀ a b,R a b->L (2*a+1000000001)=false){v x y:Value}(h:VR R L v x)(k:VR R L v y):x=y:=by
 have arr:∀ {a x y:Array Value},a.size=x.size->a.size=y.size->(∀ (i:Nat)(u v:Value),a[i]? = some u->x[i]? = some v->∀ z,VR R L u z->v=z)->(∀ (i:Nat)(u v:Value),a[i]? = some u->y[i]? = some v->VR R L u v)->x=y:=by
  intro a x y h1 h2 h3 h4;refine TS (h1.symm.trans h2) fun i hx hy=>?_
  have ha:i<a.size:=by omega
  exact h3 i a[i] x[i] (mJ ha) (mJ hx) _ (h4 i _ _ (mJ ha) (mJ hy))
 have addr:∀ {a b c:Addr},AR R a b->AR R a c->b=c:=by
  intro a b c h k;obtain⟨x,y,z⟩:=b;obtain⟨x',y',z'⟩:=c;obtain⟨h1,h2,h3⟩:=h;obtain⟨k1,k2,k3⟩:=k;have:=hR _ _ _ h1 k1;simp only at this h2 h3 k2 k3;subst this;rw[<-h2,<-h3,<-k2,<-k3]
 induction h generalizing y with
 | bool b=>cases k;rfl
 | int kd n=>cases k;rfl
 | string s=>cases k;rfl
 | gV=>cases k;rfl
 | ptr a b h=>cases k with|ptr _ c k=>rw[addr h k]
 | iq n c=>cases k;rfl
 | slice a b n c h=>cases k with|slice _ d _ _ k=>rw[addr h k]
 | fV=>cases k;rfl
 | map r s h=>cases k with|map _ t k=>rw[hR _ _ _ h k]
 | chan r=>cases k;rfl
 | func f hf x c y d hx hxv hc hcv ih1 ih2 =>
  cases k with
  | func _ _ _ _ y' d' hx' agH hc' agE=>rw[arr hx hx' (fun i u v h1 h2 z h3=>ih1 i u v h1 h2 h3) agH,arr hc hc' (fun i u v h1 h2 z h3=>ih2 i u v h1 h2 h3) agE]
 | nilFunc=>cases k;rfl
 | iface t v w h ih =>
  cases k with
  | iface _ _ w' k=>rw[ih k]
  | tJ _ a ht ha =>
   cases h with
   | ptr _ b h=>have:=hO _ _ h.1;rw[ha] at this;cases this
 | tJ t a ht ha =>
  cases k with
  | iface _ _ w' k =>
   cases k with
   | ptr _ b h=>have:=hO _ _ h.1;rw[ha] at this;cases this
  | tJ _ _ _ _=>rfl
 | nilIface=>cases k;rfl
 | agg x y hx hv ih=>cases k with|agg _ y' hx' hv'=>rw[arr hx hx' (fun i u v h1 h2 z h3=>ih i u v h1 h2 h3) hv']
 | tuple x y hx hv ih=>cases k with|tuple _ y' hx' hv'=>rw[arr hx hx' (fun i u v h1 h2 z h3=>ih i u v h1 h2 h3) hv']
theorem AV.fn(hR:∀ a b b',R a b->R a b'->b=b')(hO:∀ a b,R a b->L (2*a+1000000001)=false){a x y:Array Value}(h:AV R L a x)(k:AV R L a y):x=y:=by
 refine TS (h.1.symm.trans k.1) fun i hx hy=>?_
 have ha:i<a.size:=by have:=h.1;omega
 exact(h.2 i _ _ (mJ ha) (mJ hx)).fn hR hO (k.2 i _ _ (mJ ha) (mJ hy))
theorem OR.fn(hR:∀ a b b',R a b->R a b'->b=b')(hO:∀ a b,R a b->L (2*a+1000000001)=false){a x y:Obj}(h:OR R L a x)(k:OR R L a y):x=y:=by
 cases h with
 | cells x y e f h=>cases k with|cells _ y' _ _ k=>rw[h.fn hR hO k]
 | map x y c h =>
  cases k with
  | map _ y' _ k =>
   have:y=y':=by
    refine TS (h.1.symm.trans k.1) fun i h1 h2=>?_
    have ha:i<x.size:=by have:=h.1;omega
    have e1:=h.2 i _ _ (mJ ha) (mJ h1);have e2:=k.2 i _ _ (mJ ha) (mJ h2);generalize y[i]=p at e1;generalize y'[i]=q at e2;obtain⟨a1,a2,a3⟩:=p;obtain⟨b1,b2,b3⟩:=q;have f1:=e1.key.fn hR hO e2.key;have f2:=e1.val.fn hR hO e2.val;have f3:=e1.born.symm.trans e2.born;simp only at f1 f2 f3;rw[f1,f2,f3]
   rw[this]
 | sit s p=>cases k;rfl
 | fV a s t=>cases k;rfl
 | number a b l h =>
  cases k with
  | number _ c _ k =>
   obtain⟨x,y,z⟩:=b;obtain⟨x',y',z'⟩:=c;obtain⟨h1,h2,h3⟩:=h;obtain⟨k1,k2,k3⟩:=k;have:=hR _ _ _ h1 k1;simp only at this h2 h3 k2 k3;subst this;rw[<-h2,<-h3,<-k2,<-k3]
 | M7 m m' h a s t=>cases k with|M7 _ m'' k _ _ _=>rw[hR _ _ _ h k]
theorem OO.fn(hR:∀ a b b',R a b->R a b'->b=b')(hO:∀ a b,R a b->L (2*a+1000000001)=false){a x y:Option Obj}(h:OO R L a x)(k:OO R L a y):x=y:=by
 cases h with
 | none=>cases k;rfl
 | some h=>cases k with|some k=>rw[h.fn hR hO k]
end
def ZH:Code->Code->Code
 | .seq a b,r=>.seq a (ZH b r)
 | _,r=>r
theorem FT:∀ (l:List Code)(r:Code),ZH (dR l (.refuse "")) r=dR l r
 | [],r=>rfl
 | c::l,r=>by rw[dR,ZH,FT l r];rfl
def o8:Option ((Code ⊕ Nat)×List Item)->List Item->List Item
 | none,t=>t
 | some (.inl r,k),t=>t.dropLast++(match t.getLast? with|some (.code c)=>.code (ZH c r)::k|_=>[])
 | some (.inr n,k),t=>t.dropLast++.inBlock n::k
def TdI:Option ((Code ⊕ Nat)×List Item)->List Item->Prop
 | none,_=>True
 | some rk,x=>∃ X l,okE rk.1 l/\x=X++[.code (dR l (.refuse ""))]
theorem lQ(rk:(Code ⊕ Nat)×List Item)(X:List Item)(l:List Code):o8 (some rk) (X++[.code (dR l (.refuse ""))])=X++fQ rk.1 l::rk.2:=by
 obtain⟨r|n,k⟩:=rk <;> simp[o8,FT,fQ]
theorem Ak.cut{o:Option ((Code ⊕ Nat)×List Item)}{x y:List Item}(h:Ak o x y):y=o8 o x:=by
 cases o with
 | none=>exact h
 | some rk=>obtain⟨X,l,_,rfl,rfl⟩:=h;exact(lQ ..).symm
theorem Ak.td{o:Option ((Code ⊕ Nat)×List Item)}{x y:List Item}(h:Ak o x y):TdI o x:=by
 cases o with
 | none=>trivial
 | some rk=>obtain⟨X,l,h0,rfl,rfl⟩:=h;exact⟨X,l,h0,rfl⟩
theorem TdI.cut{o:Option ((Code ⊕ Nat)×List Item)}{x:List Item}(h:TdI o x):Ak o x (o8 o x):=by
 cases o with
 | none=>exact rfl
 | some rk=>obtain⟨X,l,h0,rfl⟩:=h;exact⟨X,l,h0,rfl,lQ ..⟩
def iR(T:xH)(x:Frame):Frame:={x with defers:=x.defers++T.1.1,kind:=T.2.1 x.kind,tmps:=over T.2.2 x.tmps,todo:=o8 T.1.2 x.todo}
theorem Q0(x:Frame):iR O0 x=x:=by
 unfold iR O0 over o8;simp
def uz(T:xH)(fr:Frame):List Frame->Frame
 | []=>iR T fr
 | _::_=>fr
def yR(T:xH):List Frame->List Frame
 | []=>[]
 | c::cs=>uz T c cs::yR T cs
theorem yj(x:Frame)(cs:List Frame):uz O0 x cs=x:=by
 cases cs with
 | nil=>exact Q0 x
 | cons=>rfl
theorem yD:∀ cs:List Frame,yR O0 cs=cs
 | []=>rfl
 | c::cs=>by rw[yR,yj,yD cs]
theorem rF.eqT{T:xH}(hR:∀ a b,R a b->a=b){x y:Frame}(h:rF P R L K T x y):y=iR T x:=by
 obtain⟨fn,tmps,todo,defers,mode,kind,ro⟩:=x;obtain⟨fn',bQ,todo',defers',Ke,kind',ro'⟩:=y;obtain⟨h1,⟨tm,h2,h2'⟩,h3,h4,⟨d,h5,h5'⟩,h6,h7,h8,h8',h9,h10⟩:=h;simp only at h1 h2 h2' h3 h4 h5 h5' h6 h7 h8 h8' h9 h10;have hm:mode=Ke:=by
  cases h6 with
  | run=>rfl
  | returning=>rfl
  | panicking h=>rw[h.eq hR]
 unfold iR;rw[h1,h2',h2.eq hR,h3.cut,h5,h5'.eq hR,hm,h7,h9,h10]
theorem SL.eqT{T:xH}(hR:∀ a b,R a b->a=b){x y:Frame}{a b:List Frame}(h:SL P R L K Z T [] [] x a y b):y=uz T x a/\b=yR T a:=by
 induction h with
 | bot h _ _ _=>exact⟨h.eqT hR,rfl⟩
 | up h _ k ih=>exact⟨(h.eqT hR).trans (Q0 _),by rw[yR,<-ih.1,<-ih.2]⟩
theorem SL.abs{T:xH}{x y:Frame}{a b:List Frame}(h:SL P R L K Z T [] [] x a y b):SL P R L K Z T B dI x (a++B) y (b++dI):=by
 induction h with
 | bot h hk hz hT=>exact .bot h hk hz hT
 | up h hz k ih=>exact .up h hz ih
theorem SL.rel{T:xH}{x y:Frame}{X Y:List Frame}(h:SL P R L K Z T B dI x X y Y):∃ a b,X=a++B/\Y=b++dI/\SL P R L K Z T [] [] x a y b:=by
 induction h with
 | bot h hk hz hT=>exact⟨[],[],rfl,rfl,.bot h hk hz hT⟩
 | @up x y c c' cs cs' h hz k ih =>
  obtain⟨a,b,rfl,rfl,h2⟩:=ih;exact⟨c::a,c'::b,rfl,rfl,.up h hz h2⟩
def OkT(T:xH):Prop:=T.2.1 .normal=.normal\/T.2.1 .normal=.deferred
def UQ(P:Program)(L:FuncId->Bool)(K:Op->Bool)(T:xH):Frame->List Frame->Prop
 | fr,[]=>Items P L K T.2.2 fr.todo/\TdI T.1.2 fr.todo
 | _,c::cs=>UQ P L K T c cs
theorem SL.itB{T:xH}{x y:Frame}{a b:List Frame}(h:SL P R L K Z T [] [] x a y b):UQ P L K T x a:=by
 induction h with
 | bot h _ _ _=>exact⟨h.items,h.todo.td⟩
 | up h _ k ih=>exact ih
theorem SL.opt{T:xH}(hT:OkT T){x y:Frame}{a b:List Frame}(h:SL P R L K true O0 [] [] x a y b)(hi:UQ P L K T x a):SL P R L K true T [] [] x a (uz T y b) (yR T b):=by
 induction h with
 | @bot x y h hk hz _ =>
  obtain⟨d,h1,h2⟩:=h.defers;obtain⟨tm,t1,t2⟩:=h.tmps;have e:y.defers=d:=by rw[h1];exact Qq _
  have et:y.tmps=tm:=t2;have hky:y.kind=x.kind:=h.kind;have etd:y.todo=x.todo:=h.todo;refine .bot ⟨h.fn,⟨tm,t1,by show over T.2.2 y.tmps=_;rw[et]⟩,by show Ak T.1.2 x.todo (o8 T.1.2 y.todo);rw[etd];exact hi.2.cut,hi.1,⟨d,by show y.defers++T.1.1=_;rw[e],h2⟩,h.mode,by show T.2.1 y.kind=_;rw[hky],h.norm,?_,h.ro,h.ro'⟩ hk hz (fun z=>by cases z);show T.2.1 y.kind=.normal\/T.2.1 y.kind=.deferred;rw[hky,hk];exact hT
 | @up x y c c' cs cs' h hz k ih=>exact .up h hz (ih hi)
structure Self(P:Program)(L:FuncId->Bool)(K:Op->Bool)(Z:Bool)(S:Nat->Prop)(D:Nat->Prop)(fr:Frame)(cs:List Frame)(w:World):Prop where
 off:∀ b,S b->¬ D b/\b<w.heap.size
 gb:GB P (mQ D)
 bnd:∀ a,D a->a<w.heap.size
 heap:HR (mQ D) L w.heap w.heap
 sl:SL P (mQ D) L K Z O0 [] [] fr cs fr cs
theorem Self.tp{S D:Nat->Prop}{fr:Frame}{cs:List Frame}{w:World}(h:Self P L K Z S D fr cs w)(τ:Nat->Question->Nat)(d:Nat):Self P L K Z S D fr cs (Cc.tp w τ d):=⟨h.off,h.gb,h.bnd,h.heap,h.sl⟩
theorem Ht{D:Nat->Prop}{n k:Nat}:∀ a b,ext (mQ D) n n k a b->a=b:=by
 rintro a b (h|⟨i,_,rfl,rfl⟩)
 .exact h.1
 .rfl
def grown(D:Nat->Prop)(n k:Nat)(a:Nat):Prop:=D a\/(n<=a/\a<n+k)
theorem bX{D:Nat->Prop}{n k:Nat}:∀ a b,ext (mQ D) n n k a b↔mQ (grown D n k) a b:=by
 intro a b;constructor
 .rintro (⟨rfl,h⟩|⟨i,hi,rfl,rfl⟩)
  .exact⟨rfl,.inl h⟩
  .exact⟨rfl,.inr (by omega)⟩
 .rintro⟨rfl,h|h⟩
  .exact .inl ⟨rfl,h⟩
  .exact .inr ⟨a-n,by omega,by omega,by omega⟩
theorem Ql{D:Nat->Prop}{w w' ω':World}{k:Nat}(hk:w'.heap.size=w.heap.size+k){ω:World}(hw:ω.heap=w.heap){g es:Array Event}(h:Wd (ext (mQ D) w.heap.size w.heap.size k) L w ω w' ω' #[] g #[] es):ω'.heap=w'.heap:=by
 have hs:ω'.heap.size=w'.heap.size:=by have:=h.size;rw[hw] at this;omega
 refine qcv fun i=>?_
 by_cases hi:∃ b,ext (mQ D) w.heap.size w.heap.size k i b
 .obtain⟨b,hb⟩:=hi;have:=Ht _ _ hb;subst this;exact(OO.eq Ht (h.heap _ _ hb)).symm
 .by_cases hlt:i<w.heap.size
  .have h1:ω'.heap[i]? = ω.heap[i]?:=h.frame i (by rw[hw];exact hlt) fun a ha=>by
    have:=Ht _ _ ha;subst this;exact hi ⟨_,ha⟩
   have h2:=h.Dm i hlt fun b hb=>hi ⟨b,hb⟩
   rw[h1,h2,hw]
  .by_cases hlt2:i<w.heap.size+k
   .exact absurd ⟨i,.inr ⟨i-w.heap.size,by omega,by omega,by omega⟩⟩ hi
   .rw[MW (by omega),MW (by omega)]
def blk:Loc->Option Nat
 | .cell a=>some a.block
 | .obj r=>some r
 | _=>none
structure Kn(P:Program)(L:FuncId->Bool)(K:Op->Bool)(S:Nat->Prop)(fr:Frame)(cs:List Frame)(w:World)(fr':Frame)(cs':List Frame)(w':World):Prop where
 eqT:∀ T B main τ d,OkT T->UQ P L K T fr cs->Tape w (Cc.tp w τ d) w'.drawn->UQ P L K T fr' cs'/\∃ es,stepG P main (G (uz T fr cs) (yR T cs++B)) (Cc.tp w τ d)=.go (G (uz T fr' cs') (yR T cs'++B)) (Cc.tp w' τ (d+(w'.drawn-w.drawn))) es/\∀ e∈es,Ev (fun _ b=>¬ S b) w'.heap.size e
 drawn:w.drawn<=w'.drawn
 tape:w'.tape=w.tape
 size:w.heap.size<=w'.heap.size
 frame:∀ b,S b->w'.heap[b]? = w.heap[b]?
theorem Kn.eq{S:Nat->Prop}{fr:Frame}{cs:List Frame}{w:World}{fr':Frame}{cs':List Frame}{w':World}(h:Kn P L K S fr cs w fr' cs' w')(h0:UQ P L K O0 fr cs):∀ B main τ d,Tape w (Cc.tp w τ d) w'.drawn->∃ es,stepG P main (G fr (cs++B)) (Cc.tp w τ d)=.go (G fr' (cs'++B)) (Cc.tp w' τ (d+(w'.drawn-w.drawn))) es/\∀ e∈es,Ev (fun _ b=>¬ S b) w'.heap.size e:=by
 intro B main τ d ht;have:=(h.eqT O0 B main τ d (.inl rfl) h0 ht).2;rw[yj,yj,yD,yD] at this;exact this
theorem Ev.imp{R':Nat->Nat->Prop}{n:Nat}{e:Event}(hR:∀ a b,R a b->R' a b)(h:Ev R n e):Ev R' n e:=by
 rcases h with⟨a,b,h1,h2,h3,h4⟩|⟨r,b,h1,h2,h3,h4⟩|h
 .exact .inl ⟨a,b,h1,hR _ _ h2,h3,h4⟩
 .exact .inr (.inl ⟨r,b,h1,hR _ _ h2,h3,h4⟩)
 .exact .inr (.inr h)
theorem KP(hK:vB P L K)(hL:∀ f,L f=true->fK P f){S D:Nat->Prop}{fr:Frame}{cs:List Frame}{w:World}(hs:Self P L K true S D fr cs w)(hn:dS P L true fr){B:List Frame}{main:Bool}(hf:cs=[]->fr.mode=.run\/fr.defers≠[])(hlive:¬ oF (stepG P main (G fr (cs++B)) w)):∃ fr' cs' w' D',Kn P L K S fr cs w fr' cs' w'/\Self P L K true S D' fr' cs' w'/\∀ a,D a->D' a:=by
 have hb:FZ (mQ D) w.heap.size w.heap.size:=fun a b h=>⟨hs.bnd a h.2,h.1 ▸ hs.bnd a h.2⟩
 have hf':∀ B:List Frame,cs++B=B->fr.mode=.run\/fr.defers≠[]:=fun B h=>hf (by
  have:=congrArg List.length h;simp at this;exact this)
 obtain⟨k,hk,hsg,hwd⟩:=xV (dK:=main) hs.gb hK hL hb hs.heap (hs.sl.abs (B:=B) (dI:=B)) hn (hf' B) hlive (fun i _=>rfl);generalize hst:stepG P main (G fr (cs++B)) w=s at hlive hk hsg hwd
 cases hsg with
 | comm hz _ _ _ _=>cases hz
 | @go fr' _ X _ w' _ es _ hsl =>
  obtain⟨cs',χ,rfl,e2,hrel⟩:=hsl.rel;obtain rfl:=qb6 e2;have ahG:=hrel;have hw':=hwd.world;simp only[gw] at hw' hk;have aft:w'.tape=w.tape:=by rw[hw']
  have hself:w'={w with heap:=w'.heap,drawn:=w.drawn+(w'.drawn-w.drawn)}:=hw';have hdr:w.drawn<=w'.drawn:=by
   have:=congrArg World.drawn hself;simp only at this;omega
  refine⟨fr',cs',w',grown D w.heap.size k,⟨?_,hdr,aft,by omega,fun b hb=>hwd.Dm b (hs.off b hb).2 ?_⟩,⟨fun b hb=>⟨?_,by have:=(hs.off b hb).2;omega⟩,?_,?_,?_,?_⟩,fun a h=>.inl h⟩
  .intro T dI dK τ d hT hi ht;obtain⟨k₂,hk₂,Qa,Da⟩:=xV (dK:=dK) (ω:=Cc.tp w τ d) hs.gb hK hL hb hs.heap ((hs.sl.opt hT hi).abs (B:=B) (dI:=dI)) hn (hf' B) (by rw[hst];exact hlive) (by rw[hst];exact ht);rw[hst] at hk₂ Qa Da;generalize ahe:stepG P dK (G (uz T fr cs) (yR T cs++dI)) (Cc.tp w τ d)=s₂ at Qa Da
   cases Qa with
   | @go _ ahI _ ah2 _ ψ' _ Ω ady =>
    obtain⟨a,b,e1,rfl,QM⟩:=ady.rel;have e1:a=cs':=by simpa using e1.symm
    subst e1;have hit:=QM.itB;obtain⟨rfl,rfl⟩:=QM.eqT Ht;have hh:=Ql (k:=k₂) hk₂ (ω:=Cc.tp w τ d) rfl Da;have abJ:=Da.world;simp only[gw] at abJ hh;refine⟨hit,Ω,?_,?_⟩
    .rw[abJ,hh];congr 1;rw[hself];simp only[Cc.tp]
    .obtain⟨l,_,hl1,hl2⟩:=Da.ev;have hl1:Ω=#[]++(l.map (·.2)).toArray:=hl1;simp only[gw] at hl2;rw[hh] at hl2;rw[hl1];intro e he;have he:e∈l.map (·.2):=by simpa using he
     obtain⟨p,hp,rfl⟩:=ZW.1 he;refine(hl2 p hp).ev.imp fun a b hab hb=>?_
     rcases hab with hab|⟨i,_,_,rfl⟩
     .exact(hs.off b hb).1 (hab.1 ▸ hab.2)
     .have:=(hs.off _ hb).2;have e:(Cc.tp w τ d).heap.size=w.heap.size:=rfl;omega
  .rintro x (h|⟨i,_,rfl,_⟩)
   .exact(hs.off b hb).1 h.2
   .have:=(hs.off _ hb).2;omega
  .rintro (h|h)
   .exact(hs.off b hb).1 h
   .have:=(hs.off b hb).2;omega
  .have:=hs.gb.ext hb k;exact⟨⟨fun a a' b h h'=>this.inj a a' b ((bX _ _).2 h) ((bX _ _).2 h'),fun a b b' h h'=>this.fn a b b' ((bX _ _).2 h) ((bX _ _).2 h')⟩,fun g hg b h=>this.g1 g hg b ((bX _ _).2 h),fun g hg a h=>this.g2 g hg a ((bX _ _).2 h),fun g hg=>(bX _ _).1 (this.gl g hg)⟩
  .rintro a (h|h)
   .have:=hs.bnd a h;omega
   .omega
  .have hh:=Ql (k:=k) hk (ω:=w) rfl hwd;have h1:=hwd.heap;simp only[gw] at h1;exact⟨fun b b' hbb=>(h1 b b' ((bX _ _).2 hbb)).mono fun a b h=>(bX _ _).1 h,h1.opq,fun a b hab=>h1.Af a b ((bX _ _).2 hab)⟩
  .have h2:=hrel.mono (R':=mQ (grown D w.heap.size k)) fun a b h=>(bX a b).1 h
   exact h2
end
end Sr
end
section
open Go.Conc
namespace Cc
inductive Tree(P:Program)(Q:Frame->World->Prop):Frame->List Frame->World->Prop
 | stop (fr:Frame) (w:World) (h:OkR P fr) (hq:∀ d,Q fr (w.at d)):Tree P Q fr [] w
 | step (fr:Frame) (cs:List Frame) (w:World) (n:Nat->Nat) (fr':Nat->Frame) (cs':Nat->List Frame) (w':Nat->World) (es:Nat->Array Event) (h:∀ d,Ez P fr cs (w.at d) (n d) (fr' d) (cs' d) (w' d) (es d)) (ht:∀ d,Tree P Q (fr' d) (cs' d) (w' d)):Tree P Q fr cs w
theorem Tree.step'{P:Program}{Q:Frame->World->Prop}{fr:Frame}{cs:List Frame}{w:World}(h:∀ d,∃ n fr' cs' w' es,Ez P fr cs (w.at d) n fr' cs' w' es/\Tree P Q fr' cs' w'):Tree P Q fr cs w:=by
 have h':∀ d,∃ r:Nat×Frame×List Frame×World×Array Event,Ez P fr cs (w.at d) r.1 r.2.1 r.2.2.1 r.2.2.2.1 r.2.2.2.2/\Tree P Q r.2.1 r.2.2.1 r.2.2.2.1:=fun d=>by
  obtain⟨n,fr',cs',w',es,h1,h2⟩:=h d;exact⟨(n,fr',cs',w',es),h1,h2⟩
 obtain⟨g,hg⟩:=qbU.1 h';exact .step fr cs w (fun d=>(g d).1) (fun d=>(g d).2.1) (fun d=>(g d).2.2.1) (fun d=>(g d).2.2.2.1) (fun d=>(g d).2.2.2.2) (fun d=>(hg d).1) (fun d=>(hg d).2)
abbrev St:=Frame×List Frame×World
section
variable (P:Program)(L:List FuncId)(Q:Frame->World->Prop)(T0:Nat->Question->Nat)
def Final(s:St):Prop:=s.2.1=[]/\OkR P s.1
structure Stuck(s:St):Prop where
 fr:MQ P L s.1\/OkR P s.1
 cs:∀ c∈s.2.1,MQ P L c
 tape:s.2.2.tape=T0
 no:¬ Tree P Q s.1 s.2.1 s.2.2
def Spec(x:{s // Stuck P L Q T0 s})(r:Nat×Nat×Option {s // Stuck P L Q T0 s}):Prop :=
 match r.2.2 with
 | some y=>¬ Final P x.1/\∃ es,Ez P x.1.1 x.1.2.1 (x.1.2.2.at r.1) r.2.1 y.1.1 y.1.2.1 y.1.2.2 es
 | none=>(Final P x.1/\¬ Q x.1.1 (x.1.2.2.at r.1)) \/
   (¬ Final P x.1/\((∃ fr' w' es,(∀ B τ d,(∀ i,i<r.2.1->τ (d+i)=(x.1.2.2.at r.1).tape ((x.1.2.2.at r.1).drawn+i))->stepG P true (G x.1.1 (x.1.2.1++B)) (tp (x.1.2.2.at r.1) τ d)=.go (G fr' (x.1.2.1++B)) (tp w' τ (d+r.2.1)) es)/\Pan P fr') \/
    ∀ B τ d,(∀ i,i<r.2.1->τ (d+i)=(x.1.2.2.at r.1).tape ((x.1.2.2.at r.1).drawn+i))->∃ o w' es,stepG P true (G x.1.1 (x.1.2.1++B)) (tp (x.1.2.2.at r.1) τ d)=.ended o w' es))
end
section
variable {P:Program}{L:List FuncId}{Q:Frame->World->Prop}{T0:Nat->Question->Nat}
theorem Jd(hP:fO P L)(x:{s // Stuck P L Q T0 s}):∃ r,Spec P L Q T0 x r:=by
 obtain⟨⟨fr,cs,w⟩,hx⟩:=x;obtain⟨h1,h2,h3,h4⟩:=hx;simp only at h1 h2 h3 h4;by_cases hf:Final P (fr,cs,w)
 .obtain⟨hc,hr⟩:=hf;simp only at hc hr;subst hc;have:¬ ∀ d,Q fr (w.at d):=fun hq=>h4 (.stop fr w hr hq)
  obtain⟨d,hd⟩:=qbV.1 this;exact⟨(d,0,none),.inl ⟨⟨rfl,hr⟩,hd⟩⟩
 .have hst:¬ ∀ d,∃ n fr' cs' w' es,Ez P fr cs (w.at d) n fr' cs' w' es/\Tree P Q fr' cs' w':=fun h=>h4 (Tree.step' h)
  obtain⟨d,hd⟩:=qbV.1 hst;have hs:DX P L fr cs (w.at d):=by
   rcases h1 with⟨fn,tmps,todo,rfl,hfn,hi⟩|⟨fn,tmps,todo,rfl,hfn⟩
   .exact Vx hP hfn hi h2
   .cases cs with
    | nil=>exact absurd ⟨rfl,fn,tmps,todo,rfl,hfn⟩ hf
    | cons c cs=>exact WC hfn h2
  cases hs with
  | go n fr' cs' w' es hg k1 k2 =>
   refine⟨(d,n,some ⟨(fr',cs',w'),⟨k1,k2,?_,fun ht=>hd ⟨n,fr',cs',w',es,hg,ht⟩⟩⟩),hf,es,hg⟩;exact hg.tape.trans h3
  | panic n fr' w' es hg k1=>exact⟨(d,n,none),.inr ⟨hf,.inl ⟨fr',w',es,hg,k1⟩⟩⟩
  | ended n h=>exact⟨(d,n,none),.inr ⟨hf,.inr h⟩⟩
theorem abH(n d:Nat->Nat):∃ (D:Nat->Nat)(τ:Nat->Question->Nat),D 0=0/\(∀ k,D (k+1)=D k+n k)/\∀ k i,i<n k->τ (D k+i)=T0 (d k+i):=by
 let D:Nat->Nat:=fun k=>Nat.rec 0 (fun k a=>a+n k) k
 have hD:∀ k,D (k+1)=D k+n k:=fun k=>rfl
 have mono:∀ k j,k<=j->D k<=D j:=by
  intro k j h
  induction h with
  | refl=>exact aY _
  | step _ ih=>rw[hD];omega
 classical
 refine⟨D,fun x=>if h:∃ k,D k<=x/\x<D (k+1) then T0 (d h.choose+(x-D h.choose)) else T0 x,rfl,hD,fun k i hi=>?_⟩;have hex:∃ j,D j<=D k+i/\D k+i<D (j+1):=⟨k,by omega,by rw[hD];omega⟩
 have acy:hex.choose=k:=by
  obtain⟨h1,h2⟩:=hex.choose_spec;rcases qcx hex.choose k with h|h|h
  .have:=mono (hex.choose+1) k h;omega
  .exact h
  .have:=mono (k+1) hex.choose h;rw[hD] at this;omega
 dsimp only
 rw[dif_pos hex,acy,qbu]
theorem jX{f:FuncId}{fn:Func}{tmps:Array Value}{w:World}{v:Value}(h:(results fn tmps).run P w=.ok v w):∀ τ d,(results fn tmps).run P (tp w τ d)=.ok v (tp w τ d):=by
 intro τ d;obtain⟨n,r,es',hr⟩:=dZ (kS (P:=P) fn tmps) w #[];have h1:((results fn tmps).runT P w #[]).1=.ok v w:=by rw[Sem.runT_fst];exact h
 rw[hr.eq] at h1;simp only at h1;subst h1;have hn:n=0:=by have:=hr.drawn;simp only[rw] at this;omega
 subst hn;have h2:=hr.nat τ d (fun i hi=>by omega);have h3:((results fn tmps).runT P (tp w τ d) #[]).1=.ok v (tp w τ d):=by rw[h2];rfl
 rw[Sem.runT_fst] at h3;exact h3
end
theorem uM{P:Program}{L:List FuncId}(hP:fO P L){QT:Frame}{w:World}(h0:MQ P L QT){Rr:Value->World->Prop}(hC:∀ τ d,∃ v w' fr,Rr v w'/\Steps P (lone QT [c0] (tp w τ d)) (lone fr [c0] w')/\fr.leaving P w' (.returned v)/\fr.fn=QT.fn)(hR:∀ v w' τ d,Rr v w'->Rr v (tp w' τ d)):Tree P (fun fr w'=>∃ fn v,P.funcs[fr.fn]? = some fn/\(results fn fr.tmps).run P w'=.ok v w'/\Rr v w'/\fr.fn=QT.fn) QT [] w:=by
 apply qba;intro hno
 let Q:Frame->World->Prop:=fun fr w'=>∃ fn v,P.funcs[fr.fn]? = some fn/\(results fn fr.tmps).run P w'=.ok v w'/\Rr v w'/\fr.fn=QT.fn
 have hs0:Stuck P L Q w.tape (QT,[],w):=⟨.inl h0,by simp,rfl,hno⟩;obtain⟨g,hg⟩:=qbU.1 (fun x:{s // Stuck P L Q w.tape s}=>Jd hP x)
 let p:Nat->Option {s // Stuck P L Q w.tape s}:=fun k=>Nat.rec (some ⟨_,hs0⟩) (fun _ o=>o.bind fun x=>(g x).2.2) k
 have hp0:p 0=some ⟨_,hs0⟩:=rfl;have hp1:∀ k,p (k+1)=(p k).bind fun x=>(g x).2.2:=fun k=>rfl
 obtain⟨D,τ,hD0,hD,hτ⟩:=abH (T0:=w.tape) (fun k=>((p k).map fun x=>(g x).2.1).getD 0) (fun k=>((p k).map fun x=>(g x).1).getD 0);have Ja:∀ k x,p k=some x->∀ i,i<(g x).2.1->τ (D k+i)=(x.1.2.2.at (g x).1).tape ((x.1.2.2.at (g x).1).drawn+i):=by
  intro k x hk i hi;have h1:=hτ k i (by simp only[hk,MK,Option.getD_some];exact hi);simp only[hk,MK,Option.getD_some] at h1;rw[h1];exact(congrFun x.2.tape ((g x).1+i)).symm
 have hA:∀ k x,p k=some x->runN P k (lone QT [c0] (tp w τ 0))=.next (lone x.1.1 (x.1.2.1++[c0]) (tp x.1.2.2 τ (D k))):=by
  intro k
  induction k with
  | zero =>
   intro x hk;rw[hp0] at hk
   cases hk
   rw[hD0];rfl
  | succ k ih =>
   intro y hk;rw[hp1] at hk
   cases hpk:p k with
   | none=>rw[hpk] at hk;cases hk
   | some x =>
    rw[hpk] at hk;simp only[Option.bind_some] at hk;have hsp:=hg x;unfold Spec at hsp;rw[hk] at hsp;obtain⟨_,es,hgo⟩:=hsp;have hst:=hgo.eq [c0] τ (D k) (Ja k x hpk);have hDk:D (k+1)=D k+(g x).2.1:=by rw[hD];simp only[hpk,MK,Option.getD_some]
    rw[runN_add,ih x hpk,hDk];simp only[runN];have:=jN hst;rw[show tp (x.1.2.2.at (g x).1) τ (D k)=tp x.1.2.2 τ (D k) from rfl] at this;rw[this]
 obtain⟨v,w',fr,hRr,hcomes,hleave,ag1⟩:=hC τ 0;obtain⟨N,hN⟩:=hcomes;obtain⟨hm,hdf,hkd,fn,ag4,hres⟩:=hleave
 cases hpN:p N with
 | some x =>
  have h1:=hA N x hpN;rw[hN] at h1;simp only[Stepped.next.injEq] at h1;obtain⟨e1,e2,e3⟩:=lS h1;have hcs:x.1.2.1=[]:=by
   cases hx:x.1.2.1 with
   | nil=>rfl
   | cons a l=>rw[hx] at e2;simp at e2
  have hok:OkR P x.1.1:=by
   rcases x.2.fr with⟨fn,tmps,todo,h,_⟩|h
   .rw[e1,h] at hm;cases hm
   .exact h
  have hfin:Final P x.1:=⟨hcs,hok⟩;have hsp:=hg x;unfold Spec at hsp
  cases hn:(g x).2.2 with
  | some y=>rw[hn] at hsp;exact hsp.1 hfin
  | none =>
   rw[hn] at hsp;rcases hsp with⟨_,hq⟩|⟨h,_⟩
   .refine hq ⟨fn,v,by rw[<-e1];exact ag4,?_,?_⟩
    .have:=jX (f:=0) hres x.1.2.2.tape (g x).1;rw[<-e1,e3] at *
     exact this
    .have:=hR v w' x.1.2.2.tape (g x).1 hRr;rw[e3] at this;exact⟨this,by rw[<-e1];exact ag1⟩
   .exact h hfin
 | none =>
  have hlast:∃ k x,k<N/\p k=some x/\(g x).2.2=none:=by
   have:∀ M,p M=none->∃ k x,k<M/\p k=some x/\(g x).2.2=none:=by
    intro M
    induction M with
    | zero=>intro h;rw[hp0] at h;cases h
    | succ M ih =>
     intro h
     cases hpM:p M with
     | none=>obtain⟨k,x,h1,h2⟩:=ih hpM;exact⟨k,x,by omega,h2⟩
     | some x=>rw[hp1,hpM] at h;exact⟨M,x,by omega,hpM,h⟩
   exact this N hpN
  obtain⟨k,x,hkN,hpk,hgx⟩:=hlast;have hk:=hA k x hpk;obtain⟨M,rfl⟩:∃ M,N=k+(M+1):=⟨N-k - 1,by omega⟩
  rw[runN_add,hk] at hN;simp only[runN] at hN;have hsp:=hg x;unfold Spec at hsp;rw[hgx] at hsp;have hag:=Ja k x hpk;rcases hsp with⟨⟨hcs,fn',tmps,todo,hfr,hfi⟩,_⟩|⟨hnf,⟨fr',w'',es,hgo,ZY⟩|hend⟩
  .obtain⟨n,hret⟩:=QN (P:=P) (tmps:=tmps) (todo:=todo) (w:=tp x.1.2.2 τ (D k)) hfi;rw[hcs,hfr] at hN;rcases hret with⟨v',w'',es,_,_,_,_,h5⟩|h5
   .have:=jN (h5 c0 [] τ (D k) (fun i _=>rfl));rw[V8] at this;simp only[yG] at hN;rw[this] at hN;exact U9 v' _ M fr w' hN hm
   .obtain⟨o,w'',es,h6⟩:=h5 c0 [] τ (D k) (fun i _=>rfl);rw[V8] at h6;simp only[yG] at hN;rw[eB h6] at hN
    cases hN
  .have:=jN (hgo [c0] τ (D k) hag);rw[show tp (x.1.2.2.at (g x).1) τ (D k)=tp x.1.2.2 τ (D k) from rfl] at this;rw[this] at hN;exact Gl ZY x.2.cs M fr w' hN hm
  .obtain⟨o,w'',es,h6⟩:=hend [c0] τ (D k) hag;rw[show tp (x.1.2.2.at (g x).1) τ (D k)=tp x.1.2.2 τ (D k) from rfl] at h6;rw[eB h6] at hN
   cases hN
theorem FM{P:Program}{L:List FuncId}(hP:fO P L){f:FuncId}{args:Array Value}{w:World}(hf:oD P L f=true){Rr:Value->World->Prop}(hC:∀ τ d,Calls P f args (tp w τ d) fun e w'=>∃ v,e=.returned v/\Rr v w')(hR:∀ v w' τ d,Rr v w'->Rr v (tp w' τ d)):Tree P (fun fr w'=>∃ fn v,P.funcs[fr.fn]? = some fn/\(results fn fr.tmps).run P w'=.ok v w'/\Rr v w'/\fr.fn=(Frame.enter P f args .normal).fn) (Frame.enter P f args .normal) [] w :=uM hP (Ri hP hf args) (fun τ d=>by
  obtain⟨e,w',fr,⟨v,rfl,hRr⟩,hcomes,hfn,hleave⟩:=hC τ d [c0];exact⟨v,w',fr,hRr,hcomes,hleave,hfn.trans rfl⟩) hR
theorem DU{P:Program}{L:List FuncId}(hP:fO P L){f:FuncId}{fn:Func}{c:Code}{tmps:Array Value}{w:World}(hf:P.funcs[f]? = some fn)(hc:gU P L c=true){Rr:Value->World->Prop}(hC:∀ τ d,c.wp P (bodyPost P fn fun e w'=>∃ v,e=.returned v/\Rr v w') {tmps,defers:=[]} (tp w τ d))(hR:∀ v w' τ d,Rr v w'->Rr v (tp w' τ d)):Tree P (fun fr w'=>∃ fn v,P.funcs[fr.fn]? = some fn/\(results fn fr.tmps).run P w'=.ok v w'/\Rr v w'/\fr.fn=f) (F f tmps [.code c]) [] w :=uM hP ⟨f,tmps,[.code c],rfl,by rw[hf];rfl,fun x hx=>by rw[qbk] at hx;subst hx;exact hc⟩ (fun τ d=>by
  obtain⟨e,a',w',hq,harr⟩:=hC τ d (F f #[] []) [] [c0]
  cases e with
  | normal =>
   obtain⟨hd,v,hr,v',hv,hR⟩:=hq
   cases hv
   exact⟨v,w',_,hR,Steps.trans harr (.one step_end),⟨rfl,hd,rfl,fn,hf,hr⟩,rfl⟩
  | ret =>
   obtain⟨hd,v,hr,v',hv,hR⟩:=hq
   cases hv
   obtain⟨todo,hs⟩:=harr;exact⟨v,w',_,hR,hs,⟨rfl,hd,rfl,fn,hf,hr⟩,rfl⟩
  | panic chain=>obtain⟨_,v,h,_⟩:=hq;cases h
  | exit id=>exact hq.elim
  | goto l=>exact hq.elim
  | outgrown=>obtain⟨v,h,_⟩:=hq;cases h) hR
end Cc
end
section
open Go.Conc
open Cc (c0 tp jN eB lS)
namespace Sr
inductive GT(P:Program)(L:FuncId->Bool)(K:Op->Bool)(S:Nat->Prop)(Φ:Frame->List Frame->World->Prop):Frame->List Frame->World->Prop
 | stop {fr:Frame} {cs:List Frame} {w:World} (h:∀ τ d,Φ fr cs (tp w τ d)):GT P L K S Φ fr cs w
 | step {fr:Frame} {cs:List Frame} {w:World} (hn:dS P L true fr) (hf:cs=[]->fr.mode=.run\/fr.defers≠[]) (fr':(Nat->Question->Nat)->Nat->Frame) (cs':(Nat->Question->Nat)->Nat->List Frame) (w':(Nat->Question->Nat)->Nat->World)
   (h:∀ τ d,Kn P L K S fr cs (tp w τ d) (fr' τ d) (cs' τ d) (w' τ d)) (ht:∀ τ d,GT P L K S Φ (fr' τ d) (cs' τ d) (w' τ d)):GT P L K S Φ fr cs w
section
variable {P:Program}{L:FuncId->Bool}{K:Op->Bool}{S:Nat->Prop}{Φ Ψ:Frame->List Frame->World->Prop}
theorem GT.step'{fr:Frame}{cs:List Frame}{w:World}(hn:dS P L true fr)(hf:cs=[]->fr.mode=.run\/fr.defers≠[])(h:∀ τ d,∃ fr' cs' w',Kn P L K S fr cs (tp w τ d) fr' cs' w'/\GT P L K S Φ fr' cs' w'):GT P L K S Φ fr cs w:=by
 have h':∀ r:(Nat->Question->Nat)×Nat,∃ s:Frame×List Frame×World,Kn P L K S fr cs (tp w r.1 r.2) s.1 s.2.1 s.2.2/\GT P L K S Φ s.1 s.2.1 s.2.2:=fun r=>by
  obtain⟨fr',cs',w',h1,h2⟩:=h r.1 r.2;exact⟨(fr',cs',w'),h1,h2⟩
 obtain⟨g,hg⟩:=qbU.1 h';exact .step hn hf (fun τ d=>(g (τ,d)).1) (fun τ d=>(g (τ,d)).2.1) (fun τ d=>(g (τ,d)).2.2) (fun τ d=>(hg (τ,d)).1) (fun τ d=>(hg (τ,d)).2)
def Dn(n:Nat->Nat):Nat->Nat
 | 0=>0
 | k+1=>Dn n k+n k
theorem Jy(n:Nat->Nat){k j:Nat}(h:k<=j):Dn n k<=Dn n j:=by
 induction h with
 | refl=>exact aY _
 | step _ ih=>simp only[Dn];omega
theorem glue(n:Nat->Nat)(T:Nat->Nat->Question->Nat)(E:Nat->Question->Nat):∃ τ:Nat->Question->Nat,(∀ k i,i<n k->τ (Dn n k+i)=T k i)/\∀ x,(∀ k,Dn n k<=x)->τ x=E x:=by
 classical
 refine⟨fun x=>if h:∃ k,Dn n k<=x/\x<Dn n (k+1) then T h.choose (x-Dn n h.choose) else E x,fun k i hi=>?_,fun x hx=>?_⟩
 .have hex:∃ j,Dn n j<=Dn n k+i/\Dn n k+i<Dn n (j+1):=⟨k,by omega,by simp only[Dn];omega⟩
  have acy:hex.choose=k:=by
   obtain⟨h1,h2⟩:=hex.choose_spec;rcases qcx hex.choose k with h|h|h
   .have:=Jy n (k:=hex.choose+1) (j:=k) h;omega
   .exact h
   .have:=Jy n (k:=k+1) (j:=hex.choose) h;have e:Dn n (k+1)=Dn n k+n k:=rfl;rw[e] at this;omega
  dsimp only
  rw[dif_pos hex,acy,qbu]
 .dsimp only
  rw[dif_neg];rintro⟨k,h1,h2⟩;have:=hx (k+1);omega
def Uz(P:Program)(v:Value):Prop:=v=.nilIface\/∃ u,v=.iface P.rt.panicNilError u
def XI(P:Program)(fr:Frame):Prop:=∃ v g,fr.mode=.panicking [{v,recovered:=false,goexit:=g}]/\Uz P v
def wL{α:Type}(P:Program)(C:α->Prop):Sem α->Prop
 | .pure a=>C a
 | .new _ k=>∀ n,wL P C (k n)
 | .sys _ k=>∀ r,wL P C (k r)
 | .program k=>wL P C (k P)
 | .halt h=>Bd h\/∃ v,h=.panic v/\Uz P v
 | _=>False
theorem tL{α β:Type}{C:α->Prop}{D:β->Prop}{f:α->Sem β}(hf:∀ a,C a->wL P D (f a)):∀ {s:Sem α},wL P C s->wL P D (s.bind f)
 | .pure a,h=>hf a h
 | .new o k,h=>fun n=>tL hf (h n)
 | .sys c k,h=>fun r=>tL hf (h r)
 | .program k,h=>tL (s:=k P) hf h
 | .halt x,h=>h
theorem mV{α β:Type}{C:α->Prop}{D:β->Prop}{f:α->Sem β}{s:Sem α}(hs:wL P C s)(hf:∀ a,C a->wL P D (f a)):wL P D (s >>= f):=tL hf hs
theorem xu{α:Type}:∀ {s:Sem α},wL P (fun _=>False) s->∀ (w:World)(es:Array Event),∃ h w' es',s.runT P w es=(.halt h w',es')/\(Bd h\/∃ v,h=.panic v/\Uz P v)
 | .pure a,h,w,es=>h.elim
 | .new o k,h,w,es=>xu (h w.heap.size) _ es
 | .sys c k,h,w,es=>xu (h (w.sys c).1) _ _
 | .program k,h,w,es=>xu (s:=k P) h w es
 | .halt x,h,w,es=>⟨x,w,es,rfl,h⟩
theorem OW(t:TypeId):wL P (fun _=>True) (underlying t):=by
 unfold underlying;show wL P _ (Sem.program fun q=>_);show wL P _ (match P.underlying t with|some d=>pure d|none=>stuck _)
 cases P.underlying t with
 | none=>exact .inl trivial
 | some d=>exact trivial
theorem FQ:wL P (fun _:Value=>False) (Instr.panic .nilIface):=by
 unfold Instr.panic;dsimp only
 refine mV (C:=fun _=>True) ?_ fun n _=>?_
 .unfold Instr.panicnil;refine mV (C:=fun _=>True) (fun r=>trivial) fun r _=>?_
  cases r with
  | strings env=>exact mV (C:=fun _=>True) (s:=program) trivial fun _ _=>trivial
  | _=>exact .inl trivial
 .split
  .exact .inr ⟨_,rfl,.inl rfl⟩
  .unfold runtimePanic;refine mV (C:=fun q=>q=P) (s:=program) rfl fun q hq=>?_
   subst hq;dsimp only
   refine mV (C:=fun _=>True) ?_ fun e _=>mV (C:=fun _=>True) ?_ fun r _=>.inr ⟨_,rfl,.inr ⟨_,rfl⟩⟩
   .unfold elemOf;refine mV (OW _) fun d _=>?_
    cases d <;> first|exact .inl trivial|exact trivial
   .unfold newVar newRow;refine mV (C:=fun _=>True) (fun n=>trivial) fun _ _=>trivial
theorem Ur{ρ:Operand->Value}{o:Oper}{x:Operand}(ho:o.op=.panic x)(hx:ρ x=.nilIface)(w:World):∃ h w' es',(execOp ρ o).runT P w #[]=(.halt h w',es')/\(Bd h\/∃ v,h=.panic v/\Uz P v):=by
 have e0:execOp ρ o=(do pure (.value (<- Instr.panic (ρ x)))):=by unfold execOp;rw[ho]
 rw[e0,hx];exact xu (mV FQ fun _ h=>h.elim) w #[]
theorem JG{fr c:Frame}{B:List Frame}{w:World}{ch:List PanicEntry}(hm:fr.mode=.panicking ch)(hd:fr.defers=[])(hc:fr.catches P=false)(main:Bool):stepG P main (G fr (c::B)) w=.go (G (c.raise ch) B) w #[]:=by
 rw[nC (by rw[hm];simp)];unfold unwind;rw[hd,hm];dsimp only
 rw[hc];rfl
theorem xC(ch:List PanicEntry)(w:World):∃ o w',step P (lone (c0.raise ch) [] w)=.ended o w':=⟨_,_,eB (es:=#[]) (o:=.unsupported (.noEntry "machine/Return: a deferred call of a nil function value, made while the frame is unwinding") (({c0 with mode:=.panicking ch,defers:=[]}:Frame).pos P)) (w':=w) (by
 simp[stepG,G,c0,Frame.raise,unwind,callDeferred])⟩
theorem uP(v:Value)(w:World):∃ o w',step P (lone (c0.finish v) [] w)=.ended o w':=⟨_,_,eB (es:=#[]) (o:=.unsupported (.elab "") ((c0.finish v).pos P)) (w':=w) (by
 simp[stepG,stepG.exec,G,c0,Frame.finish])⟩
def Gone(P:Program)(m:Machine):Prop:=∀ M fr cs w,runN P M m=.next (lone fr (cs++[c0]) w)->False
theorem Mx{fr:Frame}{w:World}(h:∃ o w',step P (lone fr [] w)=.ended o w'):Gone P (lone fr [] w):=by
 intro M fr' cs' w' hM
 cases M with
 | zero =>
  simp only[runN,Stepped.next.injEq] at hM;have:=(lS hM).2.1;simp at this
 | succ M =>
  obtain⟨o,w2,h⟩:=h;simp only[runN,h] at hM
  cases hM
theorem Aa{ch:List PanicEntry}:∀ {cs:List Frame}{fr:Frame}{w:World},fr.mode=.panicking ch->fr.defers=[]->fr.catches P=false->(∀ c∈cs,c.mode=.run/\c.defers=[]/\c.catches P=false) ->
  ∀ M fr' cs' w',runN P M (lone fr (cs++[c0]) w)=.next (lone fr' (cs'++[c0]) w')->fr'.mode=.panicking ch
 | [],fr,w,h1,h2,h3,_,M,fr',cs',w',hM=>by
  cases M with
  | zero =>
   simp only[runN,Stepped.next.injEq] at hM;rw[<-(lS hM).1];exact h1
  | succ M =>
   have hs:=jN (P:=P) (JG (c:=c0) (B:=[]) (w:=w) h1 h2 h3 true);simp only[yG,runN,hs] at hM;exact(Mx (xC ch w) M fr' cs' w' hM).elim
 | c::cs,fr,w,h1,h2,h3,h4,M,fr',cs',w',hM=>by
  cases M with
  | zero =>
   simp only[runN,Stepped.next.injEq] at hM;rw[<-(lS hM).1];exact h1
  | succ M =>
   have hs:=jN (P:=P) (JG (c:=c) (B:=cs++[c0]) (w:=w) h1 h2 h3 true);simp only[NJ,runN,hs] at hM;have hc:=h4 c (by simp);have hr:(c.raise ch).mode=.panicking ch/\(c.raise ch).todo=c.todo/\(c.raise ch).fn=c.fn:=by
    unfold Frame.raise;rw[hc.1];exact⟨rfl,rfl,rfl⟩
   refine Aa hr.1 ((qP c ch).2.trans hc.2.1) ?_ (fun x hx=>h4 x (by simp[hx])) M fr' cs' w' hM;have:=hc.2.2;unfold Frame.catches at this ⊢;rw[hr.2.1,hr.2.2];exact this
theorem SL.plain{R:Nat->Nat->Prop}{x y:Frame}{a b:List Frame}{T:xH}(h:SL P R L K true T [] [] x a y b):x.defers=[]/\x.catches P=false/\∀ c∈a,c.mode=.run/\c.defers=[]/\c.catches P=false:=by
 induction h with
 | bot h hk hz _=>exact⟨hz rfl,vV h.items,by simp⟩
 | @up x y c c' cs cs' h hz k ih =>
  refine⟨(hz rfl).1,vV h.items,fun z hz'=>?_⟩;rcases rD.1 hz' with rfl|hz'
  .exact⟨(hz rfl).2,ih.1,ih.2.1⟩
  .exact ih.2.2 z hz'
theorem Yh{fr:Frame}{w:World}(hm:fr.mode≠.run)(hd:fr.defers=[])(hc:fr.catches P=false)(hk:fr.kind=.normal):∀ M fr' cs' w',runN P (M+1) (lone fr [c0] w)=.next (lone fr' (cs'++[c0]) w')->False:=by
 intro M fr' cs' w' hM;have ended:(∃ o w' es,stepG P true (G fr [c0]) w=.ended o w' es)->False:=fun⟨o,w2,es,h⟩=>by
  simp only[runN,eB h] at hM
  cases hM
 have go:∀ c w2 es,stepG P true (G fr [c0]) w=.go (G c []) w2 es->(∃ o w',step P (lone c [] w2)=.ended o w')->False:=fun c w2 es h he=>by
  simp only[runN,jN h] at hM;exact Mx he M fr' cs' w' hM
 cases hmm:fr.mode with
 | run=>exact hm hmm
 | panicking ch=>exact go _ _ _ (JG hmm hd hc true) (xC ch w)
 | returning =>
  have hu:=nC (P:=P) (main:=true) (fr:=fr) (cs:=[c0]) (w:=w) hm
  cases hfn:P.funcs[fr.fn]? with
  | none =>
   refine go (c0.finish (fr.tmps.getD 0 undef)) w #[] ?_ (uP _ _);rw[hu];unfold unwind;rw[hd,hmm];dsimp only
   rw[hfn];dsimp only
   rw[jE (.inl hk)];unfold back;rw[hk];rfl
  | some fn =>
   cases hr:(results fn fr.tmps).runT P w #[] with
   | mk r es' =>
   cases r with
   | ok v w2 =>
    refine go (c0.finish v) w2 (seen P fr.fn es') ?_ (uP _ _);rw[hu];unfold unwind;rw[hd,hmm];dsimp only
    rw[hfn];dsimp only
    rw[hr];dsimp only
    rw[jE (.inl hk)];unfold back;rw[hk];simp[GStep.after]
   | halt h w2 =>
    refine ended ?_;rw[hu];unfold unwind;rw[hd,hmm];dsimp only
    rw[hfn];dsimp only
    rw[hr]
    cases h <;> exact⟨_,_,_,rfl⟩
def Tk(P:Program)(L:FuncId->Bool)(K:Op->Bool):Prop:=∀ o,K o=true->bT P L o=true/\(∀ c,o≠.defer c)/\(∀ c b,o≠.select c b)/\∀ c,o=.call c->c.callee≠.builtin .recover
theorem ada(hT:Tk P L K){D:Nat->Prop}{fr:Frame}{cs:List Frame}{w:World}(hs:Self P L K true S D fr cs w)(hn:¬ dS P L true fr):fr.mode=.run/\∃ ops i l k o x,fr.todo=.inRegion ops (i::l)::k/\ops[i]? = some o/\Region.wanted o (yielded ops fr.tmps)=true/\o.op=.panic x/\fr.eval x=.nilIface:=by
 have hpl:=hs.sl.plain;obtain⟨T',htop,_,_⟩:=hs.sl.top;have hit:=htop.items;unfold dS at hn
 cases hm:fr.mode with
 | returning=>rw[hm] at hn;exact absurd (fun d ds b ts t c h=>by rw[hpl.1] at h;cases h) hn
 | panicking ch=>rw[hm] at hn;exact absurd (fun d ds b ts t c h=>by rw[hpl.1] at h;cases h) hn
 | run =>
  rw[hm] at hn;refine⟨rfl,?_⟩;apply qba;intro hno;refine hn fun ops i l k o h1 h2 h3=>?_
  have hK:K o.op=true:=by
   rw[h1] at hit;have:=(aH.1 hit).1;simp only[Jr,YF] at this;obtain⟨hlt,he⟩:=fT.1 h2;have:=this i hlt;rw[he] at this;rw[fE] at this;exact this.1
  obtain⟨t1,t2,t3,t4⟩:=hT _ hK;exact⟨t1,fun x hx he=>hno ⟨ops,i,l,k,o,x,h1,h2,h3,hx,he⟩,fun c hc=>absurd hc (t2 c),fun c b hc=>absurd hc (t3 c b),fun c hc hr=>absurd hr (t4 c hc)⟩
theorem X0(hT:Tk P L K){D:Nat->Prop}{fr:Frame}{cs:List Frame}{w:World}(hs:Self P L K true S D fr cs w)(hn:¬ dS P L true fr):∀ M fr' cs' w',runN P (M+1) (lone fr (cs++[c0]) w)=.next (lone fr' (cs'++[c0]) w')->XI P fr':=by
 obtain⟨hm,ops,i,l,k,o,x,h1,h2,h3,h4,h5⟩:=ada hT hs hn;have hpl:=hs.sl.plain;obtain⟨T',htop,_,_⟩:=hs.sl.top;intro M fr' cs' w' hM;obtain⟨h,w2,es,hr,hv⟩:=Ur (P:=P) h4 h5 w;have hA:stepG P true (G fr (cs++[c0])) w=stepG.apply P true fr (cs++[c0]) none (execOp fr.eval o) w:=by
  obtain⟨fn,tmps,todo,defers,mode,kind,ro⟩:=fr;have hro:=htop.ro;simp only at h1 h3 hm hro;subst h1 hm hro;simp[stepG,stepG.exec,stepG.oper,Frame.oper?,G,h3,h2]
 have e1:=vT htop.norm;rcases hv with hv|⟨v,rfl,hbad⟩
 .have:∃ o w' es,stepG P true (G fr (cs++[c0])) w=.ended o w' es:=by
   rw[hA];unfold stepG.apply;simp only[hr,if_true,e1,jI,if_false]
   cases h <;> first|exact hv.elim|exact⟨_,_,_,rfl⟩|skip
   rename_i u
   cases u <;> first|exact hv.elim|exact⟨_,_,_,rfl⟩
  obtain⟨o',w3,es3,he⟩:=this;simp only[runN,eB he] at hM
  cases hM
 .have hB:stepG P true (G fr (cs++[c0])) w=.go (G (fr.raise [{v,recovered:=false}]) (cs++[c0])) w2 (seen P fr.fn es):=by
   rw[hA];unfold stepG.apply;simp only[hr,if_true,e1,jI,if_false];show GStep.after _ _=_;simp[GStep.after,G]
  simp only[runN,jN hB] at hM;have hrm:(fr.raise [{v,recovered:=false}]).mode=.panicking [{v,recovered:=false}]/\(fr.raise [{v,recovered:=false}]).todo=fr.todo/\(fr.raise [{v,recovered:=false}]).fn=fr.fn:=by
   unfold Frame.raise;rw[hm];exact⟨rfl,rfl,rfl⟩
  have:=Aa hrm.1 ((qP _ _).2.trans hpl.1) (by
   have:=hpl.2.1;unfold Frame.catches at this ⊢;rw[hrm.2.1,hrm.2.2];exact this) hpl.2.2 M fr' cs' w' hM
  exact⟨v,_,this,hbad⟩
end
abbrev St:=Frame×List Frame×World
section
variable (P:Program)(L:FuncId->Bool)(K:Op->Bool)(S D0:Nat->Prop)(Φ:Frame->List Frame->World->Prop)
def UG(s:St):Prop:=(∃ D,Self P L K true S D s.1 s.2.1 s.2.2/\∀ a,D0 a->D a)/\¬ GT P L K S Φ s.1 s.2.1 s.2.2
def ZL(s:St):Prop:=s.2.1=[]->s.1.mode=.run\/s.1.defers≠[]
def Spec(x:{s // UG P L K S D0 Φ s})(r:(Nat->Question->Nat)×Nat×Option {s // UG P L K S D0 Φ s}):Prop :=
 match r.2.2 with
 | some y=>Kn P L K S x.1.1 x.1.2.1 (tp x.1.2.2 r.1 r.2.1) y.1.1 y.1.2.1 y.1.2.2
 | none=>¬ dS P L true x.1.1\/¬ ZL x.1\/(dS P L true x.1.1/\ZL x.1/\oF (stepG P true (G x.1.1 (x.1.2.1++[c0])) (tp x.1.2.2 r.1 r.2.1)))
end
section
variable {P:Program}{L:FuncId->Bool}{K:Op->Bool}{S D0:Nat->Prop}{Φ:Frame->List Frame->World->Prop}
theorem Jd(hK:vB P L K)(hL:∀ f,L f=true->fK P f)(x:{s // UG P L K S D0 Φ s}):∃ r,Spec P L K S D0 Φ x r:=by
 obtain⟨⟨fr,cs,w⟩,⟨D,hs,hD⟩,hno⟩:=x;simp only at hs hno;by_cases hn:dS P L true fr
 .by_cases hf:ZL (fr,cs,w)
  .have hst:¬ ∀ τ d,∃ fr' cs' w',Kn P L K S fr cs (tp w τ d) fr' cs' w'/\GT P L K S Φ fr' cs' w':=fun h=>hno (GT.step' hn hf h)
   obtain⟨τ,hst⟩:=qbV.1 hst;obtain⟨d,hst⟩:=qbV.1 hst;by_cases he:oF (stepG P true (G fr (cs++[c0])) (tp w τ d))
   .exact⟨(τ,d,none),.inr (.inr ⟨hn,hf,he⟩)⟩
   .obtain⟨fr',cs',w',D',h1,h2,h3⟩:=KP hK hL (hs.tp τ d) hn hf he;exact⟨(τ,d,some ⟨(fr',cs',w'),⟨D',h2,fun a h=>h3 a (hD a h)⟩,fun hg=>hst ⟨fr',cs',w',h1,hg⟩⟩),h1⟩
  .exact⟨(w.tape,0,none),.inr (.inl hf)⟩
 .exact⟨(w.tape,0,none),.inl hn⟩
end
theorem Bo{P:Program}{L:FuncId->Bool}{K:Op->Bool}{S:Nat->Prop}{Φ:Frame->List Frame->World->Prop}(hK:vB P L K)(hL:∀ f,L f=true->fK P f)(hT:Tk P L K){D:Nat->Prop}{QT:Frame}{cs0:List Frame}{w:World}(hs:Self P L K true S D QT cs0 w)(hC:∀ τ d,∃ fr cs w',Steps P (lone QT (cs0++[c0]) (tp w τ d)) (lone fr (cs++[c0]) w')/\Φ fr cs w'/\¬ XI P fr)(hΦ:∀ fr cs w τ d,Φ fr cs w->Φ fr cs (tp w τ d)):GT P L K S (fun fr cs w=>Φ fr cs w/\∃ D',Self P L K true S D' fr cs w/\∀ a,D a->D' a) QT cs0 w:=by
 apply qba;intro hno
 let Φ':Frame->List Frame->World->Prop:=fun fr cs w=>Φ fr cs w/\∃ D',Self P L K true S D' fr cs w/\∀ a,D a->D' a
 obtain⟨g,hg⟩:=qbU.1 (fun x:{s // UG P L K S D Φ' s}=>Jd hK hL x)
 let x0:{s // UG P L K S D Φ' s}:=⟨(QT,cs0,w),⟨D,hs,fun _ h=>h⟩,hno⟩
 let p:Nat->Option {s // UG P L K S D Φ' s}:=fun k=>Nat.rec (some x0) (fun _ o=>o.bind fun x=>(g x).2.2) k
 have hp0:p 0=some x0:=rfl;have hp1:∀ k,p (k+1)=(p k).bind fun x=>(g x).2.2:=fun k=>rfl
 let n:Nat->Nat:=fun k=>((p k).bind fun x=>(g x).2.2.map fun y=>y.1.2.2.drawn-(g x).2.1).getD 0
 let T:Nat->Nat->Question->Nat:=fun k i=>((p k).map fun x=>(g x).1 ((g x).2.1+i)).getD (w.tape i)
 classical
 let E:Nat->Question->Nat:=if h:∃ k x,p k=some x/\(g x).2.2=none then fun y=>T h.choose (y-Dn n h.choose) else w.tape
 obtain⟨τ,agm,agy⟩:=glue n T E;have hA:∀ k x,p k=some x->runN P k (lone QT (cs0++[c0]) (tp w τ 0))=.next (lone x.1.1 (x.1.2.1++[c0]) (tp x.1.2.2 τ (Dn n k))):=by
  intro k
  induction k with
  | zero =>
   intro x hk;rw[hp0] at hk
   cases hk
   rfl
  | succ k ih =>
   intro y hk;rw[hp1] at hk
   cases hpk:p k with
   | none=>rw[hpk] at hk;cases hk
   | some x =>
    rw[hpk] at hk;simp only[Option.bind_some] at hk;have hsp:=hg x;unfold Spec at hsp;rw[hk] at hsp;have hnk:n k=y.1.2.2.drawn-(g x).2.1:=by simp only[n,hpk,Option.bind_some,hk,MK,Option.getD_some]
    have hTk:∀ i,T k i=(g x).1 ((g x).2.1+i):=fun i=>by simp only[T,hpk,MK,Option.getD_some]
    obtain⟨Dx,hsx,_⟩:=x.2.1;obtain⟨es,hst,_⟩:=hsp.eq hsx.sl.itB [c0] true τ (Dn n k) (fun i hi=>by
     have h1:=agm k i (by rw[hnk];have:(g x).2.1+i<y.1.2.2.drawn:=hi;omega);rw[hTk] at h1;exact h1)
    have hDk:Dn n (k+1)=Dn n k+(y.1.2.2.drawn-(g x).2.1):=by show Dn n k+n k=_;rw[hnk]
    rw[runN_add,ih x hpk,hDk];simp only[runN];have:=jN hst;rw[show tp (tp x.1.2.2 (g x).1 (g x).2.1) τ (Dn n k)=tp x.1.2.2 τ (Dn n k) from rfl] at this;rw[this];rfl
 obtain⟨fr,cs,w',⟨N,hN⟩,hφ,hnb⟩:=hC τ 0
 cases hpN:p N with
 | some x =>
  have h1:=hA N x hpN;rw[hN] at h1;simp only[Stepped.next.injEq] at h1;obtain⟨e1,e2,e3⟩:=lS h1;have e2:=qb6 e2;refine x.2.2 (.stop fun jH d'=>?_);have:=hΦ _ _ _ jH d' hφ;rw[e1,e2,e3] at this;obtain⟨Dx,hsx,hsup⟩:=x.2.1;exact⟨this,Dx,hsx.tp jH d',hsup⟩
 | none =>
  have hlast:∃ k x,k<N/\p k=some x/\(g x).2.2=none:=by
   have:∀ M,p M=none->∃ k x,k<M/\p k=some x/\(g x).2.2=none:=by
    intro M
    induction M with
    | zero=>intro h;rw[hp0] at h;cases h
    | succ M ih =>
     intro h
     cases hpM:p M with
     | none=>obtain⟨k,x,h1,h2⟩:=ih hpM;exact⟨k,x,by omega,h2⟩
     | some x=>rw[hp1,hpM] at h;exact⟨M,x,by omega,hpM,h⟩
   exact this N hpN
  obtain⟨k,x,hkN,hpk,hgx⟩:=hlast;have hk:=hA k x hpk;obtain⟨M,rfl⟩:∃ M,N=k+(M+1):=⟨N-k - 1,by omega⟩
  rw[runN_add,hk] at hN;have hN':runN P (M+1) (lone x.1.1 (x.1.2.1++[c0]) (tp x.1.2.2 τ (Dn n k)))=.next (lone fr (cs++[c0]) w'):=hN
  obtain⟨D',hsx,_⟩:=x.2.1;have hsp:=hg x;unfold Spec at hsp;rw[hgx] at hsp;rcases hsp with hno|hnf|⟨hok,hbf,hend⟩
  .exact hnb (X0 hT (hsx.tp τ (Dn n k)) hno M fr cs w' hN')
  .unfold ZL at hnf;rw[Classical.not_imp] at hnf;obtain⟨h1,h2⟩:=hnf;have h3:=not_or.1 h2;have hpl:=hsx.sl.plain;have hkn:x.1.1.kind=.normal:=by
    have:=hsx.sl;rw[h1] at this
    cases this with
    | bot _ hk _ _=>exact hk
   rw[h1] at hN';exact Yh h3.1 hpl.1 hpl.2.1 hkn M fr cs w' hN'
  .
   have agb:∀ k' x',p k'=some x'->(g x').2.2=none->k'=k:=by
    have after:∀ a xa,p a=some xa->(g xa).2.2=none->∀ j,a<j->p j=none:=by
     intro a xa ha hga j hj
     induction j with
     | zero=>omega
     | succ j ih =>
      rw[hp1];rcases qb7 a j with h|h
      .rw[ih h];rfl
      .have:j=a:=by omega
       subst this;rw[ha];exact hga
    intro k' x' h1 h2;rcases qcx k' k with h|h|h
    .rw[after k' x' h1 h2 k h] at hpk;cases hpk
    .exact h
    .rw[after k x hpk hgx k' h] at h1;cases h1
   have hn0:∀ j,k<=j->n j=0:=by
    intro j hj;rcases qb7 k j with h|h
    .have:p j=none:=by
      have:∀ m,p (k+1+m)=none:=by
       intro m
       induction m with
       | zero=>rw[R4,hp1,hpk];exact hgx
       | succ m ih=>rw[<-Zu,hp1,ih];rfl
      have h2:=this (j-(k+1))
      rwa [show k+1+(j-(k+1))=j by omega] at h2
     simp only[n,this,Option.bind_none,Option.getD_none]
    .have:j=k:=by omega
     subst this;simp only[n,hpk,Option.bind_some,hgx,Option.map_none,Option.getD_none]
   have ahw:∀ j,Dn n j<=Dn n k:=by
    intro j;rcases qb7 j k with h|h
    .exact Jy n (by omega)
    .induction j with
     | zero =>
          have:k=0:=by omega
          subst this;exact aY _
     | succ j ih =>
      rcases qb7 j k with h2|h2
      .exact Zj (by rw[show j+1=k by omega])
      .show Dn n j+n j<=_;rw[hn0 j h2];exact ih h2
   have Ja:∀ i,τ (Dn n k+i)=(g x).1 ((g x).2.1+i):=by
    intro i;rw[agy _ (fun j=>tT (ahw j) (Nat.le_add_right _ _))];have hex:∃ k x,p k=some x/\(g x).2.2=none:=⟨k,x,hpk,hgx⟩
    have hch:hex.choose=k:=by
     obtain⟨x',h1,h2⟩:=hex.choose_spec;exact agb _ x' h1 h2
    show(if h:∃ k x,p k=some x/\(g x).2.2=none then fun y=>T h.choose (y-Dn n h.choose) else w.tape) _=_;rw[dif_pos hex,hch,qbu];simp only[T,hpk,MK,Option.getD_some]
   by_cases he2:oF (stepG P true (G x.1.1 (x.1.2.1++[c0])) (tp x.1.2.2 τ (Dn n k)))
   .have:∃ o w2 es,stepG P true (G x.1.1 (x.1.2.1++[c0])) (tp x.1.2.2 τ (Dn n k))=.ended o w2 es:=by
     cases h:stepG P true (G x.1.1 (x.1.2.1++[c0])) (tp x.1.2.2 τ (Dn n k)) <;> rw[h] at he2 <;> first|exact he2.elim|exact⟨_,_,_,rfl⟩
    obtain⟨o,w2,es,h⟩:=this;simp only[runN,eB h] at hN'
    cases hN'
   .obtain⟨fr',cs',w2,D2,h1,_,_⟩:=KP hK hL (hsx.tp τ (Dn n k)) hok hbf he2;obtain⟨es,h2,_⟩:=h1.eq hsx.sl.itB [c0] true (g x).1 (g x).2.1 (fun i _=>(Ja i).symm);rw[show tp (tp x.1.2.2 τ (Dn n k)) (g x).1 (g x).2.1=tp x.1.2.2 (g x).1 (g x).2.1 from rfl] at h2;rw[h2] at hend;exact hend
end Sr
end
section
open Go.Conc
open Go.ConcN (sumTo upd sumTo_upd upd_ne upd_same)
namespace Cc
def Ai:Loc->Prop:=fun _=>False
theorem uo{B n:Nat}{e:Event}(h:Low n e)(hB:n<=B):EvL Ai B e:=by
 obtain⟨loc,wr,sy⟩:=e;rcases h with⟨a,h1,h2,h3⟩|⟨r,h1,h2,h3⟩|h1
 .simp only at h1 h3;subst h1 h3;exact⟨fun x _ hs=>hs.elim,by simp,by simp,show a.block<B by omega⟩
 .simp only at h1 h3;subst h1 h3;refine⟨fun x _ hs=>hs.elim,by simp,by simp,?_⟩
  cases sy
  .show r<B;omega
  .show r<B;omega
 .simp only at h1;subst h1;refine⟨fun x _ hs=>hs.elim,by simp,by simp,?_⟩
  cases wr <;> cases sy <;> trivial
theorem RS{P:Program}{Q:Frame->World->Prop}{fr:Frame}{cs:List Frame}{w:World}(ht:Tree P Q fr cs w):∀ (base:List Frame)(M:Nat)(d0:Nat)(gs:Array Goroutine)(sl:Option (Nat×Nat))(t:Trace)(q:Nat->Nat)(B:Nat),
  sumTo gs.size q=M->gs[0]? = some (G fr (cs++base))->Leavers P t gs q->Past Ai B t->w.heap.size<=B ->
  ∃ (N:Nat)(gs':Array Goroutine)(fr':Frame)(w':World)(sl':Option (Nat×Nat))(t':Trace)(q':Nat->Nat)(B':Nat),
   runNT P N (crowd gs (w.at d0) sl) t=(.next (crowd gs' w' sl'),t')/\gs'.size=gs.size/\gs'[0]? = some (G fr' base)/\OkR P fr'/\(∀ d,Q fr' (w'.at d))/\Leavers P t' gs' q'/\Past Ai B' t'/\w'.heap.size<=B':=by
 induction ht with
 | stop fr w h hq =>
  intro base M d0 gs sl t q B hM h0 hL hP hB;exact⟨0,gs,fr,w.at d0,sl,t,q,B,rfl,rfl,by simpa using h0,h,fun d=>hq d,hL,hP,hB⟩
 | step fr cs w n fr' cs' w' es h ht ih =>
  intro base M
  induction M using Nat.strongRecOn with
  | _ M Qw =>
   intro d0 gs sl t q B hM h0 hL hP hB;have hrun:(G fr (cs++base)).status=.running:=rfl;have hpos:0<gs.size:=(fT.1 h0).1;have haw:∀ g∈gs,awake g:=by
    intro g hg;obtain⟨i,hi,rfl⟩:=qcj.1 hg;rcases UZ i with rfl|hp
    .have:gs[0]=G fr (cs++base):=by simpa[mJ hi] using h0
     rw[this];exact awake_of (.inl hrun)
    .exact awake_of ((hL.old i _ hp (mJ hi)).status.elim .inl fun x=>.inr (.inr x))
   obtain⟨i,g,d,sl',hi,hg,hst⟩:=crowd_pick (P:=P) (w:=w.at d0) (sl:=sl) haw ⟨0,_,h0,hrun⟩;rcases UZ i with rfl|hp
   .obtain rfl:g=G fr (cs++base):=by rw[h0] at hi;exact(pQ hi).symm
    have hd:=h d;have hgo:stepG P true (G fr (cs++base)) (w.at d)=.go (G (fr' d) (cs' d++base)) (w' d) (es d):=by
     have:=hd.eq base (w.at d).tape (w.at d).drawn (fun i _=>rfl);have e1:tp (w' d) (w.at d).tape ((w.at d).drawn+n d)=w' d:=by rw[<-hd.drawn,<-hd.tape];rfl
     rw[e1] at this;exact this
    have hrunT:=runT_crowd_go (P:=P) (sl:=sl') (i:=0) hi (show stepG P (0==0) (G fr (cs++base)) ((w.at d0).at d)=_ from hgo);have hsz:((gs.map (woken P (G fr (cs++base)) (G (fr' d) (cs' d++base)) (w' d))).setIfInBounds 0 (G (fr' d) (cs' d++base))).size=gs.size:=by simp
    have hP':Past Ai (max B (w' d).heap.size) (t++MemOp.ofEvents 0 (G fr (cs++base)).frame.fn (G fr (cs++base)).frame.place (es d)) :=(hP.mono (Z5 _ _)).own fun e he=>uo (hd.low e he) (J9 _ _)
    obtain⟨N,gs',adG,w'',sl'',t',q',B',hr,hs',h0',hok,hQ,hL',hP'',hB'⟩:=ih d base (sumTo gs.size q) (w' d).drawn ((gs.map (woken P (G fr (cs++base)) (G (fr' d) (cs' d++base)) (w' d))).setIfInBounds 0 (G (fr' d) (cs' d++base))) sl' _ q _ (by rw[hsz]) (by simp[hpos]) (hL.own hpos _ _ (es d)) hP' (J9 _ _);refine⟨N+1,gs',adG,w'',sl'',t',q',B',?_,hs'.trans hsz,h0',hok,hQ,hL',hP'',hB'⟩;simp only[runNT,hst,hrunT];exact hr
   .have hq:=hL.old i g hp hi;have hi0:(i==0)=false:=by simp;omega
    have hlt:i<gs.size:=(fT.1 hi).1
    cases hqi:q i with
    | zero=>rw[hqi] at hq;rw[hq.1] at hg;cases hg
    | succ k =>
     rw[hqi] at hq;rcases hq with⟨hf,_⟩|⟨_,g',es',hm,hstp,hq'⟩
     .rw[hf] at hg;cases hg
     have hrunT:=runT_crowd_go (P:=P) (sl:=sl') (i:=i) hi (by rw[hi0];exact hstp ((w.at d0).at d));have hsz:((gs.map (woken P g g' ((w.at d0).at d))).setIfInBounds i g').size=gs.size:=by simp
     have hsum:sumTo gs.size (upd q i k)+(k+1)=sumTo gs.size q+k:=by
      have:=sumTo_upd q k id hlt;simpa[hqi] using this
     obtain⟨N,gs',adG,w'',sl'',t',q',B',hr,hs',h0',hok,hQ,hL',hP'',hB'⟩:=Qw (sumTo gs.size (upd q i k)) (by omega) d ((gs.map (woken P g g' ((w.at d0).at d))).setIfInBounds i g') sl' (t++MemOp.ofEvents i g.frame.fn g.frame.place es') (upd q i k) B (by rw[hsz])
      (by rw[ow (by omega),JO,h0];simp[woken_run hrun])
      ⟨fun j x hj hx=>by
       by_cases hji:i=j
       .subst hji;rw[Sn (by simpa using hlt)] at hx;obtain rfl:=pQ hx;rw[upd_same,Deaf_own];exact hq'
       .rw[ow hji,JO] at hx;obtain⟨y,hy,rfl⟩:=zA.1 hx;have hqj:=hL.old j y hj hy;rw[woken_quitsD hqj,upd_ne q k (Ao hji),Deaf_other t hji _ (fun op hop=>by obtain⟨e,_,rfl⟩:=Go.Conc.mem_ofEvents hop;rfl)];exact hqj,
      fun j hj=>by
       rw[Deaf_other t (g':=i) (by simp at hj;omega) _ (fun op hop=>by obtain⟨e,_,rfl⟩:=Go.Conc.mem_ofEvents hop;rfl)];exact hL.above j (by simpa using hj)⟩
      (hP.mute (by omega) hm) hB
     refine⟨N+1,gs',adG,w'',sl'',t',q',B',?_,hs'.trans hsz,h0',hok,hQ,hL',hP'',hB'⟩;simp only[runNT,hst,hrunT];exact hr
end Cc
end
section
open Go.Conc
namespace Cc
theorem lI(t:Trace)(y:MemOp):(t++#[y])[t.size]? = some y:=by simp
theorem g?_of{t:Trace}{i:Nat}{op:MemOp}(h:t[i]? = some op):t.g? i=some op.g:=by unfold Trace.g?;rw[h];rfl
theorem y9{t u:Trace}{i:Nat}(h:t.heard i):(t++u).heard i:=by
 obtain⟨g,hg,hd⟩:=h;have hi:i<t.size:=by
  unfold Trace.g? at hg;obtain⟨z,hz,_⟩:=zA.1 hg;exact lt_size_of_getElem? hz
 exact⟨g,by simpa[Trace.g?,getElem?_append_old hi] using hg,by rw[deaf_old (qb8 hi)];exact hd⟩
theorem heard_new{t:Trace}{y:MemOp}(h:Deaf t y.g=0):(t++#[y]).heard t.size:=by
 have hy:(t++#[y])[t.size]? = some y:=by simp
 exact⟨y.g,by simp[Trace.g?,hy],by rw[deaf_old (aY _)];exact h⟩
section
variable {Mine:Loc->Prop}{k B:Nat}{t u:Trace}
theorem wU(h:∀ i op,t[i]? = some op->op.g≠0->op.g≠k->t.counts i->∃ j,t.g? j=some 0/\HappensBefore t i j)(hu:∀ op∈u,op.g=0\/op.g=k\/op.act.touch? = none):∀ i op,(t++u)[i]? = some op->op.g≠0->op.g≠k->(t++u).counts i->∃ j,(t++u).g? j=some 0/\HappensBefore (t++u) i j:=by
 intro i op hi h0 hk hc;rcases getElem?_append_cases hi with⟨hlt,hi'⟩|⟨_,hm⟩
 .obtain⟨j,hj,hb⟩:=h i op hi' h0 hk ((counts_old hlt).1 hc);have hjl:j<t.size:=by
   unfold Trace.g? at hj;obtain⟨z,hz,_⟩:=zA.1 hj;exact lt_size_of_getElem? hz
  exact⟨j,by simpa[Trace.g?,getElem?_append_old hjl] using hj,hb_app u hb⟩
 .obtain⟨x,hx,_⟩:=hc;obtain⟨op',hop,hox⟩:=touch_of hx;rw[hi] at hop
  cases hop
  rcases hu op hm with h|h|h
  .exact absurd h h0
  .exact absurd h hk
  .rw[h] at hox;cases hox
theorem rR{op:MemOp}{i:Nat}(hi:t[i]? = some op):(t++u)[i]? = some op:=by rw[getElem?_append_old (lt_size_of_getElem? hi)];exact hi
structure Shut(k c pc:Nat)(t:Trace):Prop where
 close:∃ op,t[pc]? = some op/\op.g=k/\op.act=.close c
 heard:t.heard pc
 last:∀ i op,t[i]? = some op->op.g=k->op.act.touch?≠none->i<=pc
theorem Shut.app{c pc:Nat}(h:Shut k c pc t)(hu:∀ op∈u,op.g=k->op.act.touch? = none):Shut k c pc (t++u):=by
 obtain⟨op,h1,h2,h3⟩:=h.close;refine⟨⟨op,rR h1,h2,h3⟩,y9 h.heard,fun i op hi hg ht=>?_⟩;rcases getElem?_append_cases hi with⟨_,hi'⟩|⟨_,hm⟩
 .exact h.last i op hi' hg ht
 .exact absurd (hu op hm hg) ht
end
end Cc
end
section
open Go.Conc
open Go.ConcN (sumTo upd sumTo_upd upd_ne upd_same)
namespace Cc
theorem Uv{n:Nat}{e:Event}{b:Touch}(h:Low n e)(hb:(MemAct.ofEvent e).touch? = some b):(b.loc=e.loc/\b.write=e.write)/\((∃ a,e.loc=.cell a/\a.block<n)\/(∃ r,e.loc=.obj r)/\e.write=false):=by
 obtain⟨loc,wr,sy⟩:=e;rcases h with⟨a,h1,h2,h3⟩|⟨r,h1,h2,h3⟩|h1
 .simp only at h1 h3;subst h1 h3
  cases wr <;> simp[MemAct.ofEvent,MemAct.touch?] at hb <;> subst hb <;> exact⟨⟨rfl,rfl⟩,.inl ⟨a,rfl,h2⟩⟩
 .simp only at h1 h3;subst h1 h3
  cases sy <;> simp[MemAct.ofEvent,MemAct.touch?] at hb <;> subst hb <;> exact⟨⟨rfl,rfl⟩,.inr ⟨⟨r,rfl⟩,rfl⟩⟩
 .simp only at h1;subst h1
  cases wr <;> cases sy <;> simp[MemAct.ofEvent,MemAct.touch?] at hb
theorem abB{n:Nat}{e:Event}(h:Low n e):(MemAct.ofEvent e).low n:=(uo h (aY _)).2.2.2
section
variable {k Lw B:Nat}{t:Trace}
def Comm(k c:Nat)(op:MemOp):Prop:=(op.g=0\/op.g=k)/\((∃ n,op.act=.send c n)\/(∃ n,op.act=.sendDone c n)\/(∃ n m,op.act=.recv c n m)\/(∃ n,op.act=.recvDone c n)\/op.act=.close c)
theorem Comm.touch{c:Nat}{op:MemOp}(h:Comm k c op):op.act.touch? = none:=by
 rcases h.2 with⟨n,h⟩|⟨n,h⟩|⟨n,m,h⟩|⟨n,h⟩|h <;> rw[h] <;> rfl
theorem Comm.low{c:Nat}{op:MemOp}(h:Comm k c op)(hc:c<B):op.act.low B:=by
 rcases h.2 with⟨n,h⟩|⟨n,h⟩|⟨n,m,h⟩|⟨n,h⟩|h <;> rw[h] <;> exact hc
theorem Comm.deaf{c:Nat}{op:MemOp}(h:Comm k c op)(g d:Nat):deafStep g d op=d:=by
 rcases h.2 with⟨n,h⟩|⟨n,h⟩|⟨n,m,h⟩|⟨n,h⟩|h <;> simp[deafStep,h]
theorem DZ{c:Nat}:∀ {u:List MemOp}{t:Trace},(∀ op∈u,Comm k c op)->∀ g,Deaf (t++u.toArray) g=Deaf t g
 | [],t,_,g=>by simp
 | x::u,t,hu,g=>by
  have e:t++(x::u).toArray=t++#[x]++u.toArray:=by simp
  rw[e,DZ (fun op hop=>hu op (by simp[hop])),Deaf_push,(hu x (by simp)).deaf]
structure jV(P:Program)(t:Trace)(gs:Array Goroutine)(k:Nat)(q:Nat->Nat):Prop where
 pos:0<k
 size:gs.size=k+1
 old:∀ i g,0<i->i<k->gs[i]? = some g->QuitsD P (q i) (Deaf t i) g
 above:∀ j,k<j->Deaf t j=0
theorem jV.keep{P:Program}{t t':Trace}{gs gs':Array Goroutine}{q:Nat->Nat}(h:jV P t gs k q)(hs:gs'.size=gs.size)(hg:∀ i,0<i->i<k->gs'[i]? = gs[i]?)(hd:∀ i,i≠0->i≠k->Deaf t' i=Deaf t i):jV P t' gs' k q :=⟨h.pos,hs.trans h.size,fun i g h0 hk hi=>by rw[hd i (by omega) (by omega)];exact h.old i g h0 hk (by rw[<-hg i h0 hk];exact hi),fun j hj=>by rw[hd j (by have:=h.pos;omega) (by omega)];exact h.above j hj⟩
theorem jV.own{P:Program}{gs:Array Goroutine}{q:Nat->Nat}(h:jV P t gs k q){i:Nat}(hi:i=0\/i=k)(x y z:Goroutine)(w':World)(fn:FuncId)(pos:String)(es:Array Event):jV P (t++MemOp.ofEvents i fn pos es) ((gs.map (woken P x y w')).setIfInBounds i z) k q:=by
 refine h.keep (by simp) (fun j h0 hk=>?_) fun j h0 hk=>Deaf_other t (g':=i) (by omega) _ (fun op hop=>by obtain⟨e,_,rfl⟩:=Go.Conc.mem_ofEvents hop;rfl)
 rw[ow (by omega),JO]
 cases hj:gs[j]? with
 | none=>rfl
 | some y=>simp[woken_quitsD (h.old j y h0 hk hj)]
theorem jV.slip{P:Program}{gs:Array Goroutine}{q:Nat->Nat}(h:jV P t gs k q){i m:Nat}(h0:0<i)(hk:i<k){x y:Goroutine}{w':World}{fn:FuncId}{pos:String}{es:Array Event}(hq:QuitsD P m (deafBehind (Deaf t i) es) y):jV P (t++MemOp.ofEvents i fn pos es) ((gs.map (woken P x y w')).setIfInBounds i y) k (upd q i m):=by
 have hlt:i<gs.size:=by rw[h.size];omega
 refine⟨h.pos,by simp[h.size],fun j g hj0 hjk hj=>?_,fun j hj=>?_⟩
 .by_cases hji:i=j
  .subst hji;rw[Sn (by simpa using hlt)] at hj;obtain rfl:=pQ hj;rw[upd_same,Deaf_own];exact hq
  .rw[ow hji,JO] at hj;obtain⟨y',hy,rfl⟩:=zA.1 hj;have hqj:=h.old j y' hj0 hjk hy;rw[woken_quitsD hqj,upd_ne q m (Ao hji),Deaf_other t hji _ (fun op hop=>by obtain⟨e,_,rfl⟩:=Go.Conc.mem_ofEvents hop;rfl)];exact hqj
 .rw[Deaf_other t (g':=i) (by omega) _ (fun op hop=>by obtain⟨e,_,rfl⟩:=Go.Conc.mem_ofEvents hop;rfl)];exact h.above j hj
theorem jV.awake{P:Program}{gs:Array Goroutine}{q:Nat->Nat}(h:jV P t gs k q){a b:Goroutine}(ha:gs[0]? = some a)(hb:gs[k]? = some b)(sa:a.status=.running\/a.status=.blocked\/a.status=.finished)(sb:b.status=.running\/b.status=.blocked\/b.status=.finished):∀ g∈gs,awake g:=by
 intro g hg;obtain⟨i,hi,rfl⟩:=qcj.1 hg;rcases UZ i with rfl|hp
 .have:gs[0]=a:=by simpa[mJ hi] using ha
  rw[this];exact awake_of sa
 .by_cases hk:i=k
  .subst hk;have:gs[i]=b:=by simpa[mJ hi] using hb
   rw[this];exact awake_of sb
  .exact awake_of ((h.old i _ hp (by have:=h.size;omega) (mJ hi)).status.elim .inl fun x=>.inr (.inr x))
theorem jV.offers{P:Program}{gs:Array Goroutine}{q:Nat->Nat}(h:jV P t gs k q){i:Nat}{g:Goroutine}(h0:0<i)(hk:i<k)(hi:gs[i]? = some g)(c:Nat)(s:Bool):offersAt g c s=[] :=offersAt_of_not_blocked (by rcases (h.old i g h0 hk hi).status with x|x <;> rw[x] <;> simp) c s
theorem jV.partners_nil{P:Program}{gs:Array Goroutine}{q:Nat->Nat}(h:jV P t gs k q){i:Nat}{a b:Goroutine}{c:Nat}{s:Bool}(ha:gs[0]? = some a)(hb:gs[k]? = some b)(oa:i≠0->offersAt a c s=[])(ob:i≠k->offersAt b c s=[]):partners (gs.setIfInBounds i ph) c s=[]:=by
 refine Go.Conc.partners_nil fun j g hj=>?_
 rcases getElem?_stand gs i j g hj with⟨_,rfl⟩|⟨hne,hj'⟩
 .exact offersAt_ph c s
 .rcases UZ j with rfl|hp
  .rw[ha] at hj';cases hj';exact oa (Ao hne)
  .by_cases hk:j=k
   .subst hk;rw[hb] at hj';cases hj';exact ob (Ao hne)
   .exact h.offers hp (by have:=(fT.1 hj').1;have:=h.size;omega) hj' c s
theorem jV.partners_one{P:Program}{gs:Array Goroutine}{q:Nat->Nat}(h:jV P t gs k q){i j:Nat}(hij:(i=0/\j=k)\/(i=k/\j=0)){x:Goroutine}{c:Nat}{s:Bool}(hx:gs[j]? = some x)(ox:offersAt x c s=[0]):partners (gs.setIfInBounds i ph) c s=[(j,0)]:=by
 have hne:j≠i:=by have:=h.pos;omega
 rw[Go.Conc.partners_one (stand_get hne hx) fun m y hm hy=>?_,ox]
 .rfl
 .rcases getElem?_stand gs i m y hy with⟨_,rfl⟩|⟨hne',hy'⟩
  .exact offersAt_ph c s
  .exact h.offers (by omega) (by have:=(fT.1 hy').1;have:=h.size;omega) hy' c s
end
section
variable (P:Program)(c Lw:Nat)(S:World->Prop)
end
section
variable {P:Program}{c Lw:Nat}{S:World->Prop}{z:Value}{Fin:Goroutine->World->Prop}
end
end Cc
end
end Go.Proofs.YtdbgldieilgnmaaGreatDoor
