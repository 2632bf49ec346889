/- J05 -/
import Derived.Test.YtdbgldieilgnmaaGreatDoorJ04
set_option linter.unusedVariables false
set_option linter.unusedSimpArgs false
set_option maxHeartbeats 8000000
set_option maxRecDepth 100000
namespace Go.Proofs.YtdbgldieilgnmaaGreatDoor
open Go.Conc
namespace Sr
def avX(l:List (Nat×Value)):Operand->Bool
 | .tmp t=>l.all fun p=>p.1 != t
 | _=>true
def avD(l:List (Nat×Value)):Option Nat->Bool
 | some d=>l.all fun p=>p.1 != d
 | none=>true
def Vt(l:List (Nat×Value))(o:Oper):Bool:=o.op.operands.all (avX l)&&avD l o.dst
def kg(P:Program)(L:FuncId->Bool)(K:Op->Bool)(l:List (Nat×Value)):Code->Bool
 | .skip|.exit _|.label _|.goto _|.ret|.refuse _=>true
 | .region _ ops _=>ops.all fun o=>K o.op&&Vt l o
 | .seq a b=>kg P L K l a&&kg P L K l b
 | .cond c a b=>jL P L c&&avX l c&&kg P L K l a&&kg P L K l b
 | .block _ a|.loop a|.scope a=>kg P L K l a
 | .rangeFunc ..=>false
def Jr(P:Program)(L:FuncId->Bool)(K:Op->Bool)(l:List (Nat×Value)):Item->Bool
 | .code c|.inLoop c|.inScope c=>kg P L K l c
 | .inBlock _=>true
 | .inRegion ops _=>ops.all fun o=>K o.op&&Vt l o
 | _=>false
def Items(P:Program)(L:FuncId->Bool)(K:Op->Bool)(l:List (Nat×Value))(todo:List Item):Prop:=∀ x∈todo,Jr P L K l x=true
def vB(P:Program)(L:FuncId->Bool)(K:Op->Bool):Prop:=∀ f,L f=true->∀ fn c,P.funcs[f]? = some fn->fn.body=some c->kg P L K [] c=true
def over(l:List (Nat×Value))(x:Array Value):Array Value:=l.foldl (fun x p=>x.setIfInBounds p.1 p.2) x
theorem o9:∀ (l:List (Nat×Value))(x:Array Value)(t:Nat),(l.all fun p=>p.1 != t)=true->(over l x)[t]? = x[t]?
 | [],x,t,_=>rfl
 | p::l,x,t,h=>by
  rw[JJ,fE] at h;show(over l (x.setIfInBounds p.1 p.2))[t]? = _;rw[o9 l _ t h.2,ow (by simpa using h.1)]
theorem LQ:∀ (l:List (Nat×Value))(x:Array Value)(t:Nat)(v:Value),(l.all fun p=>p.1 != t)=true->over l (x.setIfInBounds t v)=(over l x).setIfInBounds t v
 | [],x,t,v,_=>rfl
 | p::l,x,t,v,h=>by
  rw[JJ,fE] at h;show over l ((x.setIfInBounds t v).setIfInBounds p.1 p.2)=(over l (x.setIfInBounds p.1 p.2)).setIfInBounds t v;rw[<-LQ l _ t v h.2];congr 1;have hne:p.1≠t:=by simpa using h.1
  apply qcv;intro i;by_cases h1:p.1=i
  .subst h1;rw[ow (Ao hne)];by_cases hlt:p.1<x.size
   .rw[Sn (by simpa using hlt),Sn hlt]
   .rw[MW (by simpa using hlt),MW (by simpa using hlt)]
  .rw[ow h1];by_cases h2:t=i
   .subst h2;by_cases hlt:t<x.size
    .rw[Sn hlt,Sn (by simpa using hlt)]
    .rw[MW (by simpa using hlt),MW (by simpa using hlt)]
   .rw[ow h2,ow h2,ow h1]
inductive PR(R:Nat->Nat->Prop)(L:FuncId->Bool):List PanicEntry->List PanicEntry->Prop
 | nil:PR R L [] []
 | cons {x y:PanicEntry} {a b:List PanicEntry} (hv:VR R L x.v y.v) (hr:y.recovered=x.recovered) (hg:y.goexit=x.goexit) (k:PR R L a b):PR R L (x::a) (y::b)
inductive MR(R:Nat->Nat->Prop)(L:FuncId->Bool):FrameMode->FrameMode->Prop
 | run:MR R L .run .run
 | returning:MR R L .returning .returning
 | panicking {a b:List PanicEntry} (h:PR R L a b):MR R L (.panicking a) (.panicking b)
inductive DL(R:Nat->Nat->Prop)(L:FuncId->Bool):List Deferred->List Deferred->Prop
 | nil:DL R L [] []
 | cons {x y:Deferred} {a b:List Deferred} (h:DR R L x y) (k:DL R L a b):DL R L (x::a) (y::b)
abbrev xH:=(List Deferred×Option ((Code ⊕ Nat)×List Item))×(CallKind->CallKind)×List (Nat×Value)
def O0:xH:=(([],none),id,[])
def dR:List Code->Code->Code
 | [],r=>r
 | c::l,r=>.seq c (dR l r)
def fQ:Code ⊕ Nat->List Code->Item
 | .inl r,l=>.code (dR l r)
 | .inr n,_=>.inBlock n
def okE:Code ⊕ Nat->List Code->Prop
 | .inl _,_=>True
 | .inr _,l=>l=[]
def Ak:Option ((Code ⊕ Nat)×List Item)->List Item->List Item->Prop
 | none,x,y=>y=x
 | some rk,x,y=>∃ X l,okE rk.1 l/\x=X++[.code (dR l (.refuse ""))]/\y=X++fQ rk.1 l::rk.2
theorem Ak.cons{o:Option ((Code ⊕ Nat)×List Item)}{i:Item}{k y:List Item}(h:Ak o (i::k) y):(∃ ζ,y=i::ζ/\Ak o k ζ)\/(∃ r k₀ l,o=some (r,k₀)/\okE r l/\k=[]/\i=.code (dR l (.refuse ""))/\y=fQ r l::k₀):=by
 cases o with
 | none=>exact .inl ⟨k,h,rfl⟩
 | some rk =>
  obtain⟨X,l,h0,h1,h2⟩:=h
  cases X with
  | nil =>
   simp only[yG,qbo] at h1;exact .inr ⟨rk.1,rk.2,l,rfl,h0,h1.2,h1.1,h2⟩
  | cons a X =>
   simp only[NJ,qbo] at h1;obtain⟨rfl,h1⟩:=h1;exact .inl ⟨_,h2,X,l,h0,h1,rfl⟩
theorem Ak.nil{o:Option ((Code ⊕ Nat)×List Item)}{y:List Item}(h:Ak o [] y):y=[]:=by
 cases o with
 | none=>exact h
 | some rk=>obtain⟨X,l,_,h1,_⟩:=h;cases X <;> cases h1
theorem Ak.push{o:Option ((Code ⊕ Nat)×List Item)}{x y:List Item}(h:Ak o x y)(i:Item):Ak o (i::x) (i::y):=by
 cases o with
 | none=>exact congrArg (i::·) h
 | some rk=>obtain⟨X,l,h0,rfl,rfl⟩:=h;exact⟨i::X,l,h0,rfl,rfl⟩
theorem Ak.exit{o:Option ((Code ⊕ Nat)×List Item)}{id:Nat}:∀ {x y k:List Item},Ak o x y->exitTo id x=some k->∃ ζ,exitTo id y=some ζ/\Ak o k ζ
 | [],y,k,h,he=>by simp[exitTo] at he
 | i::x,y,k,h,he=>by
  rcases h.cons with⟨ζ,rfl,hk⟩|⟨r,k₀,l,_,_,rfl,rfl,rfl⟩
  .cases i <;> simp only[exitTo] at he ⊢ <;> first|exact hk.exit he|skip
   split at he
   .rename_i hid
    rw[if_pos hid]
    cases he
    exact⟨ζ,rfl,hk⟩
   .rename_i hid
    rw[if_neg hid];exact hk.exit he
  .simp[exitTo] at he
theorem Ak.goto{o:Option ((Code ⊕ Nat)×List Item)}{l:Nat}:∀ {x y k:List Item},Ak o x y->gotoIn l x=some k->∃ ζ,gotoIn l y=some ζ/\Ak o k ζ
 | [],y,k,h,he=>by simp[gotoIn] at he
 | i::x,y,k,h,he=>by
  rcases h.cons with⟨ζ,rfl,hk⟩|⟨r,k₀,l,_,_,rfl,rfl,rfl⟩
  .cases i <;> simp only[gotoIn] at he ⊢ <;> first|exact hk.goto he|skip
   rename_i body
   cases hb:findLabel body l with
   | none=>rw[hb] at he;exact hk.goto he
   | some r=>rw[hb] at he;cases he;exact⟨_,rfl,(hk.push _).push _⟩
  .simp[gotoIn] at he
theorem Ak.calm{o:Option ((Code ⊕ Nat)×List Item)}{x y:List Item}(h:Ak o x y)(hx:∀ d b r s k,x≠.call d b r s::k):∀ d b r s k,y≠.call d b r s::k:=by
 intro d b r s k e
 cases x with
 | nil=>rw[h.nil] at e;cases e
 | cons i x =>
  rcases h.cons with⟨ζ,rfl,_⟩|⟨r',k₀,l,_,_,rfl,rfl,rfl⟩
  .injection e with e1 e2;subst e1;exact hx _ _ _ _ _ rfl
  .injection e with e1 e2;cases r' <;> cases e1
structure rF(P:Program)(R:Nat->Nat->Prop)(L:FuncId->Bool)(K:Op->Bool)(T:xH)(x y:Frame):Prop where
 fn:y.fn=x.fn
 tmps:∃ tm,AV R L x.tmps tm/\y.tmps=over T.2.2 tm
 todo:Ak T.1.2 x.todo y.todo
 items:Items P L K T.2.2 x.todo
 defers:∃ d,y.defers=d++T.1.1/\DL R L x.defers d
 mode:MR R L x.mode y.mode
 kind:y.kind=T.2.1 x.kind
 norm:x.kind=.normal\/x.kind=.deferred
 xO:y.kind=.normal\/y.kind=.deferred
 ro:x.roundOf=none
 ro':y.roundOf=none
inductive SL(P:Program)(R:Nat->Nat->Prop)(L:FuncId->Bool)(K:Op->Bool)(Z:Bool)(T:xH)(B dI:List Frame):Frame->List Frame->Frame->List Frame->Prop
 | bot {x y:Frame} (h:rF P R L K T x y) (hk:x.kind=.normal) (hz:Z=true->x.defers=[]) (hT:Z=false->T=O0):SL P R L K Z T B dI x B y dI
 | up {x y c c':Frame} {cs cs':List Frame} (h:rF P R L K O0 x y) (hz:Z=true->x.defers=[]/\c.mode=.run) (k:SL P R L K Z T B dI c cs c' cs'):SL P R L K Z T B dI x (c::cs) y (c'::cs')
section
variable {P:Program}{R R':Nat->Nat->Prop}{L:FuncId->Bool}{K:Op->Bool}{Z:Bool}{T:xH}{B dI:List Frame}{av:List (Nat×Value)}
theorem aH{x:Item}{k:List Item}:Items P L K av (x::k)↔Jr P L K av x=true/\Items P L K av k:=by simp[Items]
theorem jo{id:Nat}:∀ {k k':List Item},exitTo id k=some k'->Items P L K av k->Items P L K av k'
 | [],k',h,_=>by simp[exitTo] at h
 | x::k,k',h,hk=>by
  rw[aH] at hk
  cases x <;> simp only[exitTo] at h <;> first|exact jo h hk.2|skip
  split at h
  .cases h;exact hk.2
  .exact jo h hk.2
theorem nG:∀ {c:Code}{l:Nat}{r:Code},findLabel c l=some r->kg P L K av c=true->kg P L K av r=true
 | .seq a b,l,r,h,hc=>by
  simp only[kg,fE] at hc;simp only[findLabel] at h
  cases ha:findLabel a l with
  | some x=>rw[ha] at h;cases h;simp only[kg,fE];exact⟨nG ha hc.1,hc.2⟩
  | none=>rw[ha] at h;exact nG h hc.2
 | .label m,l,r,h,hc=>by
  simp only[findLabel] at h;split at h
  .cases h;rfl
  .cases h
 | .skip,_,_,h,_|.exit _,_,_,h,_|.goto _,_,_,h,_|.ret,_,_,h,_|.region ..,_,_,h,_|.cond ..,_,_,h,_|.block ..,_,_,h,_|.loop _,_,_,h,_|.scope _,_,_,h,_|.rangeFunc ..,_,_,h,_|.refuse _,_,_,h,_=>by simp[findLabel] at h
theorem ji{l:Nat}:∀ {k k':List Item},gotoIn l k=some k'->Items P L K av k->Items P L K av k'
 | [],k',h,_=>by simp[gotoIn] at h
 | x::k,k',h,hk=>by
  rw[aH] at hk
  cases x <;> simp only[gotoIn] at h <;> first|exact ji h hk.2|skip
  rename_i body
  cases hb:findLabel body l with
  | none=>rw[hb] at h;exact ji h hk.2
  | some r =>
   rw[hb] at h;cases h
   rw[aH,aH];exact⟨nG hb hk.1,hk.1,hk.2⟩
theorem PR.mono(hR:∀ a b,R a b->R' a b){x y:List PanicEntry}(h:PR R L x y):PR R' L x y:=by
 induction h with
 | nil=>exact .nil
 | cons hv hr hg k ih=>exact .cons (hv.mono hR) hr hg ih
theorem MR.mono(hR:∀ a b,R a b->R' a b){x y:FrameMode}(h:MR R L x y):MR R' L x y:=by
 cases h with
 | run=>exact .run
 | returning=>exact .returning
 | panicking h=>exact .panicking (h.mono hR)
theorem TR.mono(hR:∀ a b,R a b->R' a b){x y:Target}(h:TR R L x y):TR R' L x y:=by
 cases h with
 | fn f hf x y h=>exact .fn f hf x y (h.mono hR)
 | nil=>exact .nil
 | builtin b ts t cs=>exact .builtin b ts t cs
theorem DR.mono(hR:∀ a b,R a b->R' a b){x y:Deferred}(h:DR R L x y):DR R' L x y:=⟨h.target.mono hR,h.args.mono hR⟩
theorem DL.mono(hR:∀ a b,R a b->R' a b){x y:List Deferred}(h:DL R L x y):DL R' L x y:=by
 induction h with
 | nil=>exact .nil
 | cons h k ih=>exact .cons (h.mono hR) ih
theorem rF.mono(hR:∀ a b,R a b->R' a b){x y:Frame}(h:rF P R L K T x y):rF P R' L K T x y:=⟨h.fn,by obtain⟨d,h1,h2⟩:=h.tmps;exact⟨d,h1.mono hR,h2⟩,h.todo,h.items,by obtain⟨d,h1,h2⟩:=h.defers;exact⟨d,h1,h2.mono hR⟩,h.mode.mono hR,h.kind,h.norm,h.xO,h.ro,h.ro'⟩
theorem SL.mono(hR:∀ a b,R a b->R' a b){x y:Frame}{a b:List Frame}(h:SL P R L K Z T B dI x a y b):SL P R' L K Z T B dI x a y b:=by
 induction h with
 | bot h hk hz hT=>exact .bot (h.mono hR) hk hz hT
 | up h hz k ih=>exact .up (h.mono hR) hz ih
theorem SL.top{x y:Frame}{a b:List Frame}(h:SL P R L K Z T B dI x a y b):∃ T',rF P R L K T' x y/\(Z=false->T'=O0)/\∀ x' y',rF P R L K T' x' y'->x'.kind=x.kind->(Z=true->x'.defers=[])->SL P R L K Z T B dI x' a y' b:=by
 cases h with
 | bot h hk _ hT=>exact⟨T,h,hT,fun x' y' h' hk' hz=>.bot h' (hk'.trans hk) hz hT⟩
 | up h hz' kk=>exact⟨O0,h,fun _=>rfl,fun x' y' h' hk' hz=>.up h' (fun z=>⟨hz z,(hz' z).2⟩) kk⟩
theorem SL.ZR{x y:Frame}{a b:List Frame}(h:SL P R L K Z T B dI x a y b)(hz:Z=true):x.defers=[]:=by
 cases h with
 | bot _ _ k _=>exact k hz
 | up _ k _=>exact(k hz).1
theorem SL.with{x y x' y':Frame}{a b:List Frame}(h:SL P R L K Z T B dI x a y b)(k:∀ T',rF P R L K T' x y->rF P R L K T' x' y')(hk:x'.kind=x.kind)(hz:Z=true->x'.defers=[]):SL P R L K Z T B dI x' a y' b:=by
 cases h with
 | bot h hk' _ hT=>exact .bot (k _ h) (hk.trans hk') hz hT
 | up h hz' kk=>exact .up (k _ h) (fun z=>⟨hz z,(hz' z).2⟩) kk
theorem PR.app{a b c d:List PanicEntry}(h:PR R L a b)(k:PR R L c d):PR R L (a++c) (b++d):=by
 induction h with
 | nil=>exact k
 | cons hv hr hg _ ih=>exact .cons hv hr hg ih
theorem PR.drop{a b:List PanicEntry}(h:PR R L a b):PR R L (a.dropWhile (!·.goexit)) (b.dropWhile (!·.goexit)):=by
 induction h with
 | nil=>exact .nil
 | @cons x y a b hv hr hg k ih =>
  rw[qby,qby,hg];split
  .exact ih
  .exact .cons hv hr hg k
theorem rF.raise{x y:Frame}(h:rF P R L K T x y){a b:List PanicEntry}(k:PR R L a b):rF P R L K T (x.raise a) (y.raise b):=by
 obtain⟨fn,tmps,todo,defers,mode,kind,ro⟩:=x;obtain⟨fn',bQ,todo',defers',Ke,kind',ro'⟩:=y;obtain⟨h1,h2,h3,h4,h5,h6,h7,h8,h8',h9,h10⟩:=h;simp only at h1 h2 h3 h4 h5 h6 h7 h8 h8' h9 h10
 cases h6 with
 | run=>exact⟨h1,h2,h3,h4,h5,.panicking k,h7,h8,h8',h9,h10⟩
 | returning=>exact⟨h1,h2,h3,h4,h5,.panicking k,h7,h8,h8',h9,h10⟩
 | panicking h=>exact⟨h1,h2,h3,h4,h5,.panicking (k.app h),h7,h8,h8',h9,h10⟩
theorem rF.finish{x y:Frame}(h:rF P R L K T x y){v u:Value}(k:VR R L v u):rF P R L K T (x.finish v) (y.finish u):=by
 obtain⟨fn,tmps,todo,defers,mode,kind,ro⟩:=x;obtain⟨fn',bQ,todo',defers',Ke,kind',ro'⟩:=y;have h0:=h;obtain⟨h1,h2,h3,h4,h5,h6,h7,h8,h8',h9,h10⟩:=h0;simp only at h1 h2 h3 h4 h5 h6 h7 h8 h8' h9 h10;subst h1
 cases todo with
 | nil=>rw[h3.nil] at h ⊢;exact h
 | cons i l =>
  have hh:=aH.1 h4;rcases h3.cons with⟨l₁,rfl,hl₁⟩|⟨r₀,k₀,l₀,_,_,rfl,rfl,rfl⟩
  case inr=>cases r₀ <;> exact h
  cases i with
  | inRegion ops js =>
   cases js with
   | nil=>exact h
   | cons j js =>
    refine⟨rfl,?_,hl₁.push _,aH.2 ⟨hh.1,hh.2⟩,h5,h6,h7,h8,h8',h9,h10⟩;simp only[Frame.finish];obtain⟨tm,h2,h2'⟩:=h2
    cases ho:ops[j]? with
    | none=>exact⟨tm,h2,h2'⟩
    | some o =>
     simp only[Option.bind_some]
     cases hd:o.dst with
     | none=>exact⟨tm,h2,h2'⟩
     | some d =>
      refine⟨tm.setIfInBounds d u,h2.set d k,?_⟩;have ha:avD T.2.2 o.dst=true:=by
       have:=hh.1;simp only[Jr,YF] at this;obtain⟨hlt,he⟩:=fT.1 ho;have:=this j hlt;rw[he] at this;simp only[Vt,fE] at this;exact this.2.2
      rw[hd] at ha;rw[LQ _ _ _ _ ha,<-h2']
  | code c=>exact h
  | inBlock id=>exact h
  | inLoop c=>exact h
  | inScope c=>exact h
  | _=>exact absurd hh.1 (by simp[Jr])
theorem rF.eval{x y:Frame}(h:rF P R L K T x y)(hR:GB P R)(o:Operand)(ho:jL P L o=true)(ha:avX T.2.2 o=true):VR R L (x.eval o) (y.eval o):=by
 cases o with
 | tmp t =>
  obtain⟨tm,h1,h2⟩:=h.tmps;have e:y.eval (.tmp t)=tm.getD t undef:=by
   show y.tmps.getD t undef=_;rw[h2,Az,Az,o9 _ _ _ ha]
  rw[e];exact h1.getD t dG
 | const v=>exact yg ho
 | global g=>exact .ptr _ _ ⟨hR.gl g (by simpa[jL] using ho),rfl,rfl⟩
 | func f=>exact .func f ho #[] #[] #[] #[] rfl (fun i v w h _=>by simp at h) rfl (fun i v w h _=>by simp at h)
theorem rF.yielded{x y:Frame}(h:rF P R L K T x y)(ops:Array Oper)(ho:(ops.all fun o=>Vt T.2.2 o)=true):yielded ops x.tmps=yielded ops y.tmps:=by
 funext j;unfold Go.yielded
 cases hj:ops[j]? with
 | none=>rfl
 | some o =>
  simp only[Option.bind_some]
  cases hd:o.dst with
  | none=>rfl
  | some d =>
   simp only[Option.bind_some];obtain⟨tm,h1,h2⟩:=h.tmps;have ha:avD T.2.2 o.dst=true:=by
    rw[YF] at ho;obtain⟨hlt,he⟩:=fT.1 hj;have:=ho j hlt;rw[he] at this;simp only[Vt,fE] at this;exact this.2
   rw[hd] at ha;rw[h2,o9 _ _ _ ha];rcases h1.get d with⟨h1,h2⟩|⟨v,u,h1,h2,h3⟩
   .rw[h1,h2]
   .rw[h1,h2]
    cases h3 <;> rfl
theorem qP(x:Frame)(a:List PanicEntry):(x.raise a).kind=x.kind/\(x.raise a).defers=x.defers:=by
 unfold Frame.raise;split <;> exact⟨rfl,rfl⟩
theorem nZ(x:Frame)(v:Value):(x.finish v).kind=x.kind/\(x.finish v).defers=x.defers/\(x.finish v).mode=x.mode:=by
 unfold Frame.finish;split <;> exact⟨rfl,rfl,rfl⟩
theorem SL.finish{x y:Frame}{a b:List Frame}(h:SL P R L K Z T B dI x a y b){v u:Value}(hv:VR R L v u):SL P R L K Z T B dI (x.finish v) a (y.finish u) b :=h.with (fun _ k=>k.finish hv) (nZ x v).1 fun hz=>(nZ x v).2.1.trans (h.ZR hz)
theorem SL.raise{x y:Frame}{a b:List Frame}(h:SL P R L K Z T B dI x a y b){c d:List PanicEntry}(hv:PR R L c d):SL P R L K Z T B dI (x.raise c) a (y.raise d) b :=h.with (fun _ k=>k.raise hv) (qP x c).1 fun hz=>(qP x c).2.trans (h.ZR hz)
theorem Am(hZ:Z=false){x y:Frame}{a b:List Frame}(hc:SL P R L K Z T B dI x a y b):(tryRecover x a=none/\tryRecover y b=none)\/∃ v u a' b',tryRecover x a=some (v,a')/\tryRecover y b=some (u,b')/\VR R L v u/\SL P R L K Z T B dI x a' y b':=by
 obtain⟨T',h,hT',_⟩:=hc.top;have hT':=hT' hZ;subst hT';have hkk:y.kind=x.kind:=h.kind;rcases h.norm with hk|hk
 .left
  have hk':=hkk.trans hk;constructor
  .unfold tryRecover;rw[hk]
  .unfold tryRecover;rw[hk']
 .have hk':=hkk.trans hk
  cases hc with
  | bot _ hn _ _=>rw[hk] at hn;cases hn
  | @up _ _ c d a b h hz k =>
   obtain⟨T₂,hcd,ahH,_⟩:=k.top;have hcm:∀ m m',MR R L m m'->SL P R L K Z T B dI {c with mode:=m} a {d with mode:=m'} b:=fun m m' hm =>
    k.with (fun _ hcd=>⟨hcd.fn,hcd.tmps,hcd.todo,hcd.items,hcd.defers,hm,hcd.kind,hcd.norm,hcd.xO,hcd.ro,hcd.ro'⟩) rfl fun z=>k.ZR z
   have hmm:=hcd.mode;generalize hm1:c.mode=m at hmm;generalize hm2:d.mode=m' at hmm
   cases hmm with
   | run=>left;constructor <;> (unfold tryRecover;simp only[hk,hk',hm1,hm2])
   | returning=>left;constructor <;> (unfold tryRecover;simp only[hk,hk',hm1,hm2])
   | panicking hp =>
    cases hp with
    | nil=>left;constructor <;> (unfold tryRecover;simp only[hk,hk',hm1,hm2])
    | @cons p q ps qs hv hr hg kk =>
     obtain⟨pv,pr,pg⟩:=p;obtain⟨qv,qr,qg⟩:=q;simp only at hv hr hg;subst hr hg
     cases qr with
     | true=>left;constructor <;> (unfold tryRecover;simp only[hk,hk',hm1,hm2])
     | false=>cases qg with
      | true=>left;constructor <;> (unfold tryRecover;simp only[hk,hk',hm1,hm2])
      | false =>
       right
       refine⟨pv,qv,_,_,by unfold tryRecover;simp only[hk,hm1];rfl,by unfold tryRecover;simp only[hk',hm2];rfl,hv,.up h (fun z=>by rw[hZ] at z;cases z) ?_⟩;exact hcm _ _ (.panicking (.cons (x:=⟨pv,true,false⟩) (y:=⟨qv,true,false⟩) hv rfl rfl kk))
inductive SG(P:Program)(R:Nat->Nat->Prop)(L:FuncId->Bool)(K:Op->Bool)(Z:Bool)(T:xH)(B dI:List Frame):GStep->GStep->Prop
 | go {fr aB:Frame} {cs χ:List Frame} {w ω:World} {es η:Array Event} (hc:SL P R L K Z T B dI fr cs aB χ):SG P R L K Z T B dI (.go (G fr cs) w es) (.go (G aB χ) ω η)
 | comm {fr aB:Frame} {cs χ:List Frame} {w ω:World} {es η:Array Event} {x y:Array CommCase} (hz:Z=false) (hc:SL P R L K Z T B dI fr cs aB χ) (hx:CV R L x y) (b:Bool) (s:CommShape):SG P R L K Z T B dI (.comm (G fr cs) x b s w es) (.comm (G aB χ) y b s ω η)
def gw:GStep->World
 | .go _ w _|.comm _ _ _ _ w _|.spawn _ _ w _|.count _ w _|.timer _ _ w _|.alone _ _ w _|.newcoro _ _ _ w _|.coroswitch _ _ _ w _|.collect _ w _|.watch _ w _|.ended _ w _=>w
def oF:GStep->Prop
 | .ended ..=>True
 | _=>False
theorem lT(es:Array Event)(s:GStep):gw (s.after es)=gw s:=by cases s <;> rfl
theorem Wd.refl{w ω:World}(h:HR R L w.heap ω.heap):Wd R L w ω w ω #[] #[] #[] #[]:=⟨h,rfl,aY _,by simp,fun _ _ _=>rfl,fun _ _ _=>rfl,nP.nil _ _⟩
theorem O6{n:Nat}{g es:Array Event}(h:nP R n #[] g #[] es)(fn:FuncId):nP R n #[] (seen P fn g) #[] (seen P fn es):=by
 obtain⟨l,rfl,rfl,hl⟩:=h;unfold Go.seen;dsimp only
 have key:∀ (l:List (Event×Event)),(∀ p∈l,Vh R n p.1 p.2)->∀ (q:Bool)(k k':Array Event),nP R n #[] k #[] k' ->
   let f:Bool×Array Event->Event->Bool×Array Event:=fun x e=>match e.loc with
    | .mark (.extern f)=>((P.funcs[f]?).any (·.norace),x.2)
    | _=>(x.1,if x.1&&!e.sync then x.2 else x.2.push e)
   (List.foldl f (q,k) (l.map (·.1))).1=(List.foldl f (q,k') (l.map (·.2))).1/\nP R n #[] (List.foldl f (q,k) (l.map (·.1))).2 #[] (List.foldl f (q,k') (l.map (·.2))).2:=by
  intro l
  induction l with
  | nil=>intro _ q k k' hk;exact⟨rfl,hk⟩
  | cons p l ih =>
   intro hl q k k' hk;have hp:=hl p (by simp);have hl':=fun x hx=>hl x (List.mem_cons_of_mem _ hx)
   obtain⟨e,Θ⟩:=p;simp only at hp;simp only[qcf,Xu]
   cases hp with
   | cell a b wr h hn =>
    refine ih hl' q _ _ ?_
    cases q
    .exact hk.trans (.one _ _ (.cell a b wr h hn)) (aY _)
    .exact hk
   | obj r r' wr h hn =>
    refine ih hl' q _ _ ?_
    cases q
    .exact hk.trans (.one _ _ (.obj r r' wr h hn)) (aY _)
    .exact hk
   | mark m hm =>
    cases m <;> first
     |(cases hm;done)
     | exact ih hl' _ _ _ hk
     |(
      refine ih hl' q _ _ ?_
      cases q
      .exact hk.trans (.one _ _ (.mark _ hm)) (aY _)
      .exact hk.trans (.one _ _ (.mark _ hm)) (aY _))
 have:=(key l hl ((P.funcs[fn]?).any (·.norace)) #[] #[] (nP.nil _ _)).2;simp only[Array.empty_append,rJ,List.foldl_toArray'];exact this
theorem Wd.seen{w ω w' ω':World}{g es:Array Event}(h:Wd R L w ω w' ω' #[] g #[] es){fn fn₁:FuncId}(hf:fn₁=fn):Wd R L w ω w' ω' #[] (seen P fn g) #[] (seen P fn₁ es):=by
 subst hf;exact⟨h.heap,h.size,h.grow,h.world,h.frame,h.Dm,O6 h.ev _⟩
theorem Gj(hK:vB P L K){f:FuncId}(hf:L f=true)(hF:fK P f){x y:Array Value}(h:AV R L x y){k:CallKind}(hk:k=.normal\/k=.deferred):rF P R L K O0 (Frame.enter P f x k) (Frame.enter P f y k):=by
 refine⟨rfl,?_,rfl,?_,⟨[],rfl,.nil⟩,.run,rfl,hk,hk,rfl,rfl⟩
 .unfold Frame.enter;dsimp only
  rw[<-h.1];exact⟨_,h.app (AV.abx _ dG),rfl⟩
 .intro i hi;unfold Frame.enter at hi;simp only[qbk] at hi;subst hi;rcases hF.1 with h1|⟨fn,h1,_⟩
  .rw[h1];rfl
  rw[h1];simp only[Option.bind_some]
  cases hb:fn.body with
  | none=>rfl
  | some c=>exact hK f hf fn c h1 hb
def ext(R:Nat->Nat->Prop)(n Γ k:Nat)(a b:Nat):Prop:=R a b\/∃ i,i<k/\a=n+i/\b=Γ+i
def FZ(R:Nat->Nat->Prop)(n Γ:Nat):Prop:=∀ a b,R a b->a<n/\b<Γ
theorem vM{n Γ k:Nat}:∀ a b,R a b->ext R n Γ k a b:=fun a b h=>.inl h
theorem GB.ext(hR:GB P R){n Γ:Nat}(hb:FZ R n Γ)(k:Nat):GB P (ext R n Γ k) where
 inj:=fun a a' b h h'=>by
  rcases h with h|⟨i,hi,rfl,rfl⟩
  .rcases h' with h'|⟨j,hj,rfl,rfl⟩
   .exact hR.inj _ _ _ h h'
   .have:=(hb _ _ h).2;omega
  .rcases h' with h'|⟨j,hj,rfl,e⟩
   .have:=(hb _ _ h').2;omega
   .omega
 fn:=fun a b b' h h'=>by
  rcases h with h|⟨i,hi,rfl,rfl⟩
  .rcases h' with h'|⟨j,hj,rfl,rfl⟩
   .exact hR.fn _ _ _ h h'
   .have:=(hb _ _ h).1;omega
  .rcases h' with h'|⟨j,hj,e,rfl⟩
   .have:=(hb _ _ h').1;omega
   .omega
 g1:=fun g hg b h=>by
  rcases h with h|⟨i,hi,e,rfl⟩
  .exact hR.g1 g hg b h
  .have:=(hb _ _ (hR.gl g hg)).1;omega
 g2:=fun g hg a h=>by
  rcases h with h|⟨i,hi,rfl,e⟩
  .exact hR.g2 g hg a h
  .have:=(hb _ _ (hR.gl g hg)).2;omega
 gl:=fun g hg=>.inl (hR.gl g hg)
theorem HR.ext{h h':Array Obj}(hh:HR R L h h')(k:Nat):HR (ext R h.size h'.size k) L h h':=by
 refine⟨fun b b' hb=>?_,hh.opq,fun a b hb=>?_⟩
 .rcases hb with hb|⟨i,hi,rfl,rfl⟩
  .exact(hh b b' hb).mono vM
  .rw[MW (by omega),MW (by omega)];exact .none
 .rcases hb with hb|⟨i,hi,rfl,rfl⟩
  .exact hh.Af a b hb
  .constructor
   .cases hl:L (2*(h.size+i)+1000000001) with
    | false=>rfl
    | true =>
     obtain⟨c,e,h1,_⟩:=hh.opq (h.size+i) hl;have:=(fT.1 h1).1;omega
   .cases hl:L (2*(h'.size+i)+1000000001) with
    | false=>rfl
    | true =>
     obtain⟨c,e,_,h1⟩:=hh.opq (h'.size+i) hl;have:=(fT.1 h1).1;omega
def Tape(w ω:World)(n:Nat):Prop:=∀ i,w.drawn+i<n->ω.tape (ω.drawn+i)=w.tape (w.drawn+i)
theorem Bc{α:Type}(hR:GB P R){w ω:World}(hb:FZ R w.heap.size ω.heap.size)(hh:HR R L w.heap ω.heap){s t:Sem α}{C:(Nat->Nat->Prop)->α->α->Prop}(hs:∀ R',GB P R'->(∀ a b,R a b->R' a b)->Dso R' L->SR P R' L (C R') s t){r:Result α}{es':Array Event}(hr:s.runT P w #[]=(r,es'))(ht:Tape w ω (rw r).drawn)(hg:¬ Gt r):∃ k ι η,(rw r).heap.size=w.heap.size+k/\t.runT P ω #[]=(ι,η)/\Sim (ext R w.heap.size ω.heap.size k) L (C (ext R w.heap.size ω.heap.size k)) w ω r ι #[] es' #[] η:=by
 have hgr:=iI hr;have hG:=hR.ext hb ((rw r).heap.size-w.heap.size);obtain⟨ι,η,h1,h2⟩:=jg hG.toPB (hs _ hG vM (hh.ext _).Af) #[] hr hg (hh.ext _) (fun i hi=>.inr ⟨i,by omega,rfl,rfl⟩) ht;exact⟨(rw r).heap.size-w.heap.size,ι,η,by omega,h1,h2⟩
theorem Hz{α:Type}(hR:GB P R){w ω:World}(hb:FZ R w.heap.size ω.heap.size)(hh:HR R L w.heap ω.heap){s t:Sem α}{C:(Nat->Nat->Prop)->α->α->Prop}(hs:∀ R',GB P R'->(∀ a b,R a b->R' a b)->Dso R' L->SR P R' L (C R') s t){r:Result α}{es':Array Event}(hr:s.runT P w #[]=(r,es'))(hg:¬ Gt r):∃ R' ι,RR R' L (C R') r ι:=by
 obtain⟨k,ι,η,_,_,h⟩:=Bc (ω:={ω with tape:=fun j=>w.tape (w.drawn+(j-ω.drawn))}) hR hb hh hs hr (fun i _=>by simp only[qbu]) hg;exact⟨_,ι,h.res⟩
def Stp(P:Program)(R:Nat->Nat->Prop)(L:FuncId->Bool)(K:Op->Bool)(Z:Bool)(T:xH)(B dI:List Frame)(w ω:World)(s s₁:GStep):Prop :=∃ k,(gw s).heap.size=w.heap.size+k/\SG P (ext R w.heap.size ω.heap.size k) L K Z T B dI s s₁/\Wd (ext R w.heap.size ω.heap.size k) L w ω (gw s) (gw s₁) #[] s.es #[] s₁.es
theorem Dv{fr aB:Frame}{cs χ:List Frame}{w ω:World}(hh:HR R L w.heap ω.heap)(hc:SL P R L K Z T B dI fr cs aB χ):Stp P R L K Z T B dI w ω (.go (G fr cs) w #[]) (.go (G aB χ) ω #[]) :=⟨0,rfl,.go (hc.mono vM),Wd.refl (hh.ext 0)⟩
theorem Rz{fr:Frame}(hi:Items P L K av fr.todo):(match fr.todo with|.call _ true _ _::_=>CallKind.wrapped|_=>CallKind.normal)=CallKind.normal:=by
 cases h:fr.todo with
 | nil=>rfl
 | cons x k =>
  rw[h] at hi
  cases x <;> first|rfl|exact absurd (aH.1 hi).1 (by simp[Jr])
theorem Qr{fr:Frame}(hi:Items P L K av fr.todo):∀ d b r s k,fr.todo≠.call d b r s::k:=by
 intro d b r s k e;rw[e] at hi;exact absurd (aH.1 hi).1 (by simp[Jr])
theorem RU{t:List Item}(h:∀ d b r s k,t≠.call d b r s::k):(match (generalizing:=false) t with|.call _ true _ _::_=>CallKind.wrapped|_=>CallKind.normal)=CallKind.normal:=by
 cases t with
 | nil=>rfl
 | cons i t=>cases i <;> first|rfl|exact absurd rfl (h _ _ _ _ _)
theorem vT{fr:Frame}(h:fr.kind=.normal\/fr.kind=.deferred):(fr.kind==CallKind.early)=false:=by rcases h with h|h <;> rw[h] <;> rfl
theorem SI(hR:GB P R)(hK:vB P L K)(hL:∀ f,L f=true->fK P f){fr aB:Frame}{cs χ:List Frame}{w ω:World}{s t:Sem Next}(hb:FZ R w.heap.size ω.heap.size)(hh:HR R L w.heap ω.heap)(hc:SL P R L K Z T B dI fr cs aB χ)(hm:fr.mode=.run)(hs:∀ R',GB P R'->(∀ a b,R a b->R' a b)->Dso R' L->SR P R' L (NR R' L Z) s t)(hlive:¬ oF (stepG.apply P true fr cs none s w))(ht:Tape w ω (gw (stepG.apply P true fr cs none s w)).drawn):Stp P R L K Z T B dI w ω (stepG.apply P true fr cs none s w) (stepG.apply P true aB χ none t ω):=by
 obtain⟨T',hf,hT',hput⟩:=hc.top;have k1:=Rz hf.items;have k2:=RU (hf.todo.calm (Qr hf.items));have e1:=vT hf.norm;have e2:=vT (fr:=aB) hf.xO
 cases hr:s.runT P w #[] with
 | mk r es' =>
 by_cases hft:Gt r
 .refine absurd ?_ hlive;unfold stepG.apply;simp only[hr,if_true,e1,jI,if_false]
  cases r with
  | ok a w'=>exact hft.elim
  | halt h w' =>
   cases h <;> first|exact hft.elim|trivial|skip
   rename_i u
   cases u <;> first|exact hft.elim|trivial
 .have hgw:gw (stepG.apply P true fr cs none s w)=rw r:=by
   obtain⟨R',ι,hrr⟩:=Hz (C:=fun R'=>NR R' L Z) hR hb hh hs hr hft;unfold stepG.apply;simp only[hr,if_true,e1,jI,if_false]
   cases hrr with
   | panic hv=>exact lT _ _
   | ok hab=>cases hab with
    | recover =>
     dsimp only
     rw[lT];split <;> rfl
    | _=>exact lT _ _
  rw[hgw] at ht;obtain⟨k,ι,η,hk,jc,Ky⟩:=Bc (C:=fun R'=>NR R' L Z) hR hb hh hs hr ht hft;have hwd:=Ky.toWd;have hres:=Ky.res;have hc':=hc.mono (R':=ext R w.heap.size ω.heap.size k) vM
  cases hres with
  | @panic v u w' ω' hv =>
   have hA:stepG.apply P true fr cs none s w=.go (G (fr.raise [{v,recovered:=false}]) cs) w' (seen P fr.fn es'):=by
    unfold stepG.apply;simp only[hr,if_true,e1,jI,if_false];show GStep.after _ _=_;simp[GStep.after,G]
   have hB:stepG.apply P true aB χ none t ω=.go (G (aB.raise [{v:=u,recovered:=false}]) χ) ω' (seen P aB.fn η):=by
    unfold stepG.apply;simp only[jc,if_true,e2,jI,if_false];show GStep.after _ _=_;simp[GStep.after,G]
   rw[hA,hB];exact⟨k,hk,.go (hc'.raise (.cons hv rfl rfl .nil)),hwd.seen hf.fn⟩
  | @ok a b w' ω' hab =>
   cases hab with
   | @value v u hv =>
    have hA:stepG.apply P true fr cs none s w=.go (G (fr.finish v) cs) w' (seen P fr.fn es'):=by
     unfold stepG.apply;simp only[hr,if_true,e1,jI,if_false];show GStep.after _ _=_;simp[GStep.after,G]
    have hB:stepG.apply P true aB χ none t ω=.go (G (aB.finish u) χ) ω' (seen P aB.fn η):=by
     unfold stepG.apply;simp only[jc,if_true,e2,jI,if_false];show GStep.after _ _=_;simp[GStep.after,G]
    rw[hA,hB];exact⟨k,hk,.go (hc'.finish hv),hwd.seen hf.fn⟩
   | skip =>
    have hA:stepG.apply P true fr cs none s w=.go (G (fr.finish undef) cs) w' (seen P fr.fn es'):=by
     unfold stepG.apply;simp only[hr,if_true,e1,jI,if_false];show GStep.after _ _=_;simp[GStep.after,G]
    have hB:stepG.apply P true aB χ none t ω=.go (G (aB.finish undef) χ) ω' (seen P aB.fn η):=by
     unfold stepG.apply;simp only[jc,if_true,e2,jI,if_false];show GStep.after _ _=_;simp[GStep.after,G]
    rw[hA,hB];exact⟨k,hk,.go (hc'.finish dG),hwd.seen hf.fn⟩
   | @enter f hLf x y hxy =>
    have hA:stepG.apply P true fr cs none s w=.go (G (Frame.enter P f x .normal) (fr::cs)) w' (seen P fr.fn es'):=by
     unfold stepG.apply;simp only[hr,if_true,e1,jI,if_false];show GStep.after _ _=_;simp[GStep.after,G];exact congrArg (Frame.enter P f x) k1
    have hB:stepG.apply P true aB χ none t ω=.go (G (Frame.enter P f y .normal) (aB::χ)) ω' (seen P aB.fn η):=by
     unfold stepG.apply;simp only[jc,if_true,e2,jI,if_false];show GStep.after _ _=_;simp[GStep.after,G];exact congrArg (Frame.enter P f y) k2
    rw[hA,hB];exact⟨k,hk,.go (.up (Gj hK hLf (hL f hLf) hxy (.inl rfl)) (fun _=>⟨rfl,hm⟩) hc'),hwd.seen hf.fn⟩
   | @defer x y hZ hxy =>
    have hA:stepG.apply P true fr cs none s w=.go (G ({fr with defers:=x::fr.defers}.finish undef) cs) w' (seen P fr.fn es'):=by
     unfold stepG.apply;simp only[hr,if_true,e1,jI,if_false];show GStep.after _ _=_;simp[GStep.after,G]
    have hB:stepG.apply P true aB χ none t ω=.go (G ({aB with defers:=y::aB.defers}.finish undef) χ) ω' (seen P aB.fn η):=by
     unfold stepG.apply;simp only[jc,if_true,e2,jI,if_false];show GStep.after _ _=_;simp[GStep.after,G]
    rw[hA,hB];refine⟨k,hk,.go (SL.finish ?_ dG),hwd.seen hf.fn⟩;exact hc'.with (fun _ hf'=>⟨hf'.fn,hf'.tmps,hf'.todo,hf'.items,by obtain⟨d,h1,h2⟩:=hf'.defers;exact⟨_::d,by rw[h1];rfl,.cons hxy h2⟩,hf'.mode,hf'.kind,hf'.norm,hf'.xO,hf'.ro,hf'.ro'⟩) rfl fun z=>by rw[hZ] at z;cases z
   | recover Zq =>
    rcases Am Zq hc' with⟨n1,n2⟩|⟨v,u,a',b',n1,n2,n3,n4⟩
    .have hA:stepG.apply P true fr cs none s w=.go (G (fr.finish .nilIface) cs) w' (seen P fr.fn es'):=by
      unfold stepG.apply;simp only[hr,if_true,e1,jI,if_false,hf.ro,n1];show GStep.after _ _=_;simp[GStep.after,G]
     have hB:stepG.apply P true aB χ none t ω=.go (G (aB.finish .nilIface) χ) ω' (seen P aB.fn η):=by
      unfold stepG.apply;simp only[jc,if_true,e2,jI,if_false,hf.ro',n2];show GStep.after _ _=_;simp[GStep.after,G]
     rw[hA,hB];exact⟨k,hk,.go (hc'.finish .nilIface),hwd.seen hf.fn⟩
    .have hA:stepG.apply P true fr cs none s w=.go (G (fr.finish v) a') w' (seen P fr.fn es'):=by
      unfold stepG.apply;simp only[hr,if_true,e1,jI,if_false,hf.ro,n1];show GStep.after _ _=_;simp[GStep.after,G]
     have hB:stepG.apply P true aB χ none t ω=.go (G (aB.finish u) b') ω' (seen P aB.fn η):=by
      unfold stepG.apply;simp only[jc,if_true,e2,jI,if_false,hf.ro',n2];show GStep.after _ _=_;simp[GStep.after,G]
     rw[hA,hB];exact⟨k,hk,.go (n4.finish n3),hwd.seen hf.fn⟩
   | @comm hzc x y hxy bl sh =>
    have hA:stepG.apply P true fr cs none s w=.comm (G fr cs) x bl sh w' (seen P fr.fn es'):=by
     unfold stepG.apply;simp only[hr,if_true,e1,jI,if_false];show GStep.after _ _=_;simp[GStep.after,G]
    have hB:stepG.apply P true aB χ none t ω=.comm (G aB χ) y bl sh ω' (seen P aB.fn η):=by
     unfold stepG.apply;simp only[jc,if_true,e2,jI,if_false];show GStep.after _ _=_;simp[GStep.after,G]
    rw[hA,hB];exact⟨k,hk,.comm hzc hc' hxy bl sh,hwd.seen hf.fn⟩
theorem gQ{fr aB fr' bC:Frame}{cs χ cs' dA:List Frame}{w ω:World}{main dK:Bool}(hh:HR R L w.heap ω.heap)(e:stepG P main (G fr cs) w=.go (G fr' cs') w #[])(Θ:stepG P dK (G aB χ) ω=.go (G bC dA) ω #[])(hc:SL P R L K Z T B dI fr' cs' bC dA):Stp P R L K Z T B dI w ω (stepG P main (G fr cs) w) (stepG P dK (G aB χ) ω):=by
 rw[e,Θ];exact Dv hh hc
def Fr(fn:FuncId)(tmps:Array Value)(todo:List Item)(ds:List Deferred)(k:CallKind):Frame:={fn,tmps,todo,defers:=ds,mode:=.run,kind:=k}
def Fx(fn:FuncId)(tmps:Array Value)(todo:List Item)(ds:List Deferred)(k:CallKind):Frame:={fn,tmps,todo,defers:=ds,mode:=.returning,kind:=k}
theorem rF.split{x y:Frame}(h:rF P R L K T x y)(hm:x.mode=.run):∃ fn tmps bQ todo todo' ds ds' k k',x=Fr fn tmps todo ds k/\y=Fr fn bQ todo' ds' k'/\Items P L K T.2.2 todo/\Ak T.1.2 todo todo':=by
 obtain⟨fn,tmps,todo,defers,mode,kind,ro⟩:=x;obtain⟨fn',bQ,todo',defers',Ke,kind',ro'⟩:=y;obtain⟨h1,h2,h3,h4,h5,h6,h7,h8,h8',h9,h10⟩:=h;simp only at h1 h2 h3 h4 h5 h6 h7 h8 h8' h9 h10 hm;subst h1 h9 h10 hm
 cases h6
 exact⟨_,_,_,_,_,_,_,_,_,rfl,rfl,h4,h3⟩
theorem rF.todo'{fn:FuncId}{tmps bQ:Array Value}{todo xM todo' J5:List Item}{ds ds':List Deferred}{k k':CallKind}(h:rF P R L K T (Fr fn tmps todo ds k) (Fr fn bQ xM ds' k'))(h4:Items P L K T.2.2 todo')(h5:Ak T.1.2 todo' J5):rF P R L K T (Fr fn tmps todo' ds k) (Fr fn bQ J5 ds' k') :=⟨rfl,h.tmps,h5,h4,h.defers,.run,h.kind,h.norm,h.xO,rfl,rfl⟩
theorem rF.leave{fn:FuncId}{tmps bQ:Array Value}{todo xM:List Item}{ds ds':List Deferred}{k k':CallKind}(h:rF P R L K T (Fr fn tmps todo ds k) (Fr fn bQ xM ds' k')):rF P R L K T (Fx fn tmps todo ds k) (Fx fn bQ xM ds' k') :=⟨rfl,h.tmps,h.todo,h.items,h.defers,.returning,h.kind,h.norm,h.xO,rfl,rfl⟩
def dS(P:Program)(L:FuncId->Bool)(Z:Bool)(fr:Frame):Prop:=match fr.mode with
 | .run=>∀ ops i l k o,fr.todo=.inRegion ops (i::l)::k->ops[i]? = some o->Region.wanted o (yielded ops fr.tmps)=true->bT P L o.op=true/\(∀ x,o.op=.panic x->fr.eval x≠.nilIface)/\(∀ c,o.op=.defer c->Z=false)/\(∀ c b,o.op=.select c b->Z=false)/\∀ c,o.op=.call c->c.callee=.builtin .recover->Z=false
 | _=>∀ d ds b ts t c,fr.defers=d::ds->d.target=.builtin b ts t c->(b=.unsafeString/\d.args.size=2)\/okB P ts b=true
theorem NY(hR:GB P R)(hL:∀ f,L f=true->fK P f)(hD:Dso R L){x y:Frame}(h:rF P R L K T x y){o:Oper}(AY:o.op.operands.all (avX T.2.2)=true)(hT:Z=false->T=O0)(ho:bT P L o.op=true)(hp:∀ v,o.op=.panic v->x.eval v≠.nilIface)(hz:∀ c,o.op=.defer c->Z=false)(hz':∀ c b,o.op=.select c b->Z=false)(Zq:∀ c,o.op=.call c->c.callee=.builtin .recover->Z=false):SR P R L (NR R L Z) (execOp x.eval o) (execOp y.eval o):=by
 by_cases hs:∃ c b,o.op=.select c b
 .obtain⟨c,b,hsel⟩:=hs;have:=hT (hz' c b hsel);subst this;exact GN hR hL (fun v hv=>h.eval hR v hv (by cases v <;> rfl)) (Vj hL hD) ho hp hz hz' Zq
 .
  obtain⟨tm,h1,h2⟩:=h.tmps;have e:execOp y.eval o=execOp ({y with tmps:=tm}:Frame).eval o:=by
   refine execOp_congr o (fun c b hc=>hs ⟨c,b,hc⟩) fun v hv=>?_
   have ha:avX T.2.2 v=true:=by
    rw[qbO] at AY;exact AY v hv
   cases v with
   | tmp t =>
    show y.tmps.getD t undef=tm.getD t undef;rw[h2,Az,Az,o9 _ _ _ ha]
   | _=>rfl
  rw[e];refine GN hR hL (fun v hv=>?_) (Vj hL hD) ho hp hz hz' Zq
  cases v with
  | tmp t=>exact h1.getD t dG
  | const v=>exact yg hv
  | global g=>exact .ptr _ _ ⟨hR.gl g (by simpa[jL] using hv),rfl,rfl⟩
  | func f=>exact .func f hv #[] #[] #[] #[] rfl (fun i v w h _=>by simp at h) rfl (fun i v w h _=>by simp at h)
theorem aan(hR:GB P R)(hK:vB P L K)(hL:∀ f,L f=true->fK P f){main dK:Bool}{fr aB:Frame}{cs χ:List Frame}{w ω:World}(hb:FZ R w.heap.size ω.heap.size)(hh:HR R L w.heap ω.heap)(hc:SL P R L K Z T B dI fr cs aB χ)(hm:fr.mode=.run)(hn:dS P L Z fr)(hlive:¬ oF (stepG P main (G fr cs) w))(ht:Tape w ω (gw (stepG P main (G fr cs) w)).drawn):Stp P R L K Z T B dI w ω (stepG P main (G fr cs) w) (stepG P dK (G aB χ) ω):=by
 obtain⟨T',hf,hT',hput⟩:=hc.top;obtain⟨fn,tmps,bQ,todo,xM,ds,ds',kd,kd',rfl,rfl,hi,htd⟩:=hf.split hm
 have mv:∀ a Δ,Items P L K T'.2.2 a->Ak T'.1.2 a Δ->SL P R L K Z T B dI (Fr fn tmps a ds kd) cs (Fr fn bQ Δ ds' kd') χ:=fun a Δ h h'=>hput _ _ (hf.todo' h h') rfl fun z=>hc.ZR z
 cases todo with
 | nil =>
  have:=htd.nil;subst this;exact gQ (fr':=Fx fn tmps [] ds kd) (bC:=Fx fn bQ [] ds' kd') hh (by simp[stepG,stepG.exec,Fr,Fx,G]) (by simp[stepG,stepG.exec,Fr,Fx,G]) (hc.with (fun _ k=>k.leave) rfl fun z=>hc.ZR z)
 | cons x k =>
  obtain⟨hx,hk⟩:=aH.1 hi;rcases htd.cons with⟨ζ,rfl,υ⟩|⟨r₀,k₀,l₀,ho,hoe,rfl,rfl,rfl⟩
  case inr =>
   cases l₀ with
   | nil=>exact absurd (by simp[stepG,stepG.exec,Fr,G,oF,dR]) hlive
   | cons c l =>
    cases r₀ with
    | inr _=>cases hoe
    | inl r₀ =>
    have hx':kg P L K T'.2.2 (.seq c (dR l (.refuse "")))=true:=hx;simp only[kg,fE] at hx';exact gQ (fr':=Fr fn tmps [.code c,.code (dR l (.refuse ""))] ds kd) (bC:=Fr fn bQ (.code c::.code (dR l r₀)::k₀) ds' kd') hh (by simp[stepG,stepG.exec,Fr,G,dR]) (by simp[stepG,stepG.exec,Fr,G,dR,fQ]) (mv _ _ (aH.2 ⟨hx'.1,aH.2 ⟨hx'.2,hk⟩⟩) (by rw[ho];exact⟨[.code c],l,trivial,rfl,rfl⟩))
  cases x with
  | inBlock id=>exact gQ (fr':=Fr fn tmps k ds kd) (bC:=Fr fn bQ ζ ds' kd') hh (by simp[stepG,stepG.exec,Fr,G]) (by simp[stepG,stepG.exec,Fr,G]) (mv _ _ hk υ)
  | inScope c=>exact gQ (fr':=Fr fn tmps k ds kd) (bC:=Fr fn bQ ζ ds' kd') hh (by simp[stepG,stepG.exec,Fr,G]) (by simp[stepG,stepG.exec,Fr,G]) (mv _ _ hk υ)
  | inLoop c=>exact gQ (fr':=Fr fn tmps (.code c::.inLoop c::k) ds kd) (bC:=Fr fn bQ (.code c::.inLoop c::ζ) ds' kd') hh (by simp[stepG,stepG.exec,Fr,G]) (by simp[stepG,stepG.exec,Fr,G]) (mv _ _ (aH.2 ⟨hx,aH.2 ⟨hx,hk⟩⟩) ((υ.push _).push _))
  | code c =>
   cases c with
   | skip=>exact gQ (fr':=Fr fn tmps k ds kd) (bC:=Fr fn bQ ζ ds' kd') hh (by simp[stepG,stepG.exec,Fr,G]) (by simp[stepG,stepG.exec,Fr,G]) (mv _ _ hk υ)
   | label l=>exact gQ (fr':=Fr fn tmps k ds kd) (bC:=Fr fn bQ ζ ds' kd') hh (by simp[stepG,stepG.exec,Fr,G]) (by simp[stepG,stepG.exec,Fr,G]) (mv _ _ hk υ)
   | ret=>exact gQ (fr':=Fx fn tmps (.code .ret::k) ds kd) (bC:=Fx fn bQ (.code .ret::ζ) ds' kd') hh (by simp[stepG,stepG.exec,Fr,Fx,G]) (by simp[stepG,stepG.exec,Fr,Fx,G]) (hc.with (fun _ k=>k.leave) rfl fun z=>hc.ZR z)
   | seq a b =>
    simp only[Jr,kg,fE] at hx;exact gQ (fr':=Fr fn tmps (.code a::.code b::k) ds kd) (bC:=Fr fn bQ (.code a::.code b::ζ) ds' kd') hh (by simp[stepG,stepG.exec,Fr,G]) (by simp[stepG,stepG.exec,Fr,G]) (mv _ _ (aH.2 ⟨hx.1,aH.2 ⟨hx.2,hk⟩⟩) ((υ.push _).push _))
   | block id a=>exact gQ (fr':=Fr fn tmps (.code a::.inBlock id::k) ds kd) (bC:=Fr fn bQ (.code a::.inBlock id::ζ) ds' kd') hh (by simp[stepG,stepG.exec,Fr,G]) (by simp[stepG,stepG.exec,Fr,G]) (mv _ _ (aH.2 ⟨hx,aH.2 ⟨rfl,hk⟩⟩) ((υ.push _).push _))
   | loop a=>exact gQ (fr':=Fr fn tmps (.code a::.inLoop a::k) ds kd) (bC:=Fr fn bQ (.code a::.inLoop a::ζ) ds' kd') hh (by simp[stepG,stepG.exec,Fr,G]) (by simp[stepG,stepG.exec,Fr,G]) (mv _ _ (aH.2 ⟨hx,aH.2 ⟨hx,hk⟩⟩) ((υ.push _).push _))
   | scope a=>exact gQ (fr':=Fr fn tmps (.code a::.inScope a::k) ds kd) (bC:=Fr fn bQ (.code a::.inScope a::ζ) ds' kd') hh (by simp[stepG,stepG.exec,Fr,G]) (by simp[stepG,stepG.exec,Fr,G]) (mv _ _ (aH.2 ⟨hx,aH.2 ⟨hx,hk⟩⟩) ((υ.push _).push _))
   | cond c a b =>
    simp only[Jr,kg,fE] at hx;have hv:=hf.eval hR c hx.1.1.1 hx.1.1.2;by_cases hcb:∃ t,(Fr fn tmps (.code (.cond c a b)::k) ds kd).eval c=.bool t
    .obtain⟨t,ht'⟩:=hcb;rw[ht'] at hv;generalize hy:(Fr fn bQ (.code (.cond c a b)::ζ) ds' kd').eval c=y at hv
     cases hv
     exact gQ (fr':=Fr fn tmps (.code (if t then a else b)::k) ds kd) (bC:=Fr fn bQ (.code (if t then a else b)::ζ) ds' kd') hh (by simp only[Fr] at ht';simp[stepG,stepG.exec,Fr,G,ht']) (by simp only[Fr] at hy;simp[stepG,stepG.exec,Fr,G,hy]) (mv _ _ (aH.2 ⟨by cases t <;> simp[Jr,hx],hk⟩) (υ.push _))
    .refine absurd ?_ hlive;simp only[stepG,stepG.exec,Fr,G];split
     .rename_i t ht;exact absurd ⟨t,ht⟩ hcb
     .trivial
   | exit id =>
    cases he:exitTo id k with
    | some k' =>
     obtain⟨k₂,he₂,hk₂⟩:=υ.exit he;exact gQ (fr':=Fr fn tmps k' ds kd) (bC:=Fr fn bQ k₂ ds' kd') hh (by simp[stepG,stepG.exec,Fr,G,he]) (by simp[stepG,stepG.exec,Fr,G,he₂]) (mv _ _ (jo he hk) hk₂)
    | none=>exact absurd (by simp[stepG,stepG.exec,Fr,G,he,oF]) hlive
   | goto l =>
    cases he:gotoIn l k with
    | some k' =>
     obtain⟨k₂,he₂,hk₂⟩:=υ.goto he;exact gQ (fr':=Fr fn tmps k' ds kd) (bC:=Fr fn bQ k₂ ds' kd') hh (by simp[stepG,stepG.exec,Fr,G,he]) (by simp[stepG,stepG.exec,Fr,G,he₂]) (mv _ _ (ji he hk) hk₂)
    | none=>exact absurd (by simp[stepG,stepG.exec,Fr,G,he,oF]) hlive
   | region id ops draw =>
    cases draw with
    | false=>exact gQ (fr':=Fr fn tmps (.inRegion ops (List.range ops.size)::k) ds kd) (bC:=Fr fn bQ (.inRegion ops (List.range ops.size)::ζ) ds' kd') hh (by simp[stepG,stepG.exec,Fr,G]) (by simp[stepG,stepG.exec,Fr,G]) (mv _ _ (aH.2 ⟨hx,hk⟩) (υ.push _))
    | true =>
     have hA:stepG P main (G (Fr fn tmps (.code (.region id ops true)::k) ds kd) cs) w=.go (G (Fr fn tmps (.inRegion ops (Region.schedule (P.follows .mixedOrders) ops (w.tape w.drawn (.order fn id)))::k) ds kd) cs) {w with drawn:=w.drawn+1} #[]:=by
      simp[stepG,stepG.exec,Fr,G,choose,Sem.run,Question.forced,Question.cut]
     rw[hA] at ht;have h0:ω.tape ω.drawn=w.tape w.drawn:=by simpa using ht 0 (by simp[gw])
     have hB:stepG P dK (G (Fr fn bQ (.code (.region id ops true)::ζ) ds' kd') χ) ω=.go (G (Fr fn bQ (.inRegion ops (Region.schedule (P.follows .mixedOrders) ops (w.tape w.drawn (.order fn id)))::ζ) ds' kd') χ) {ω with drawn:=ω.drawn+1} #[]:=by
      simp[stepG,stepG.exec,Fr,G,choose,Sem.run,Question.forced,Question.cut,h0]
     rw[hA,hB];have hm':=mv (.inRegion ops (Region.schedule (P.follows .mixedOrders) ops (w.tape w.drawn (.order fn id)))::k) (.inRegion ops (Region.schedule (P.follows .mixedOrders) ops (w.tape w.drawn (.order fn id)))::ζ) (aH.2 ⟨hx,hk⟩) (υ.push _);refine⟨0,rfl,.go (hm'.mono vM),⟨hh.ext 0,rfl,aY _,?_,fun _ _ _=>rfl,fun _ _ _=>rfl,nP.nil _ _⟩⟩;show _=({ω with heap:=ω.heap,drawn:=ω.drawn+(w.drawn+1-w.drawn)}:World);rw[qbu];rfl
   | rangeFunc a b c d=>exact absurd hx (by simp[Jr,kg])
   | refuse m=>exact absurd (by simp[stepG,stepG.exec,Fr,G,oF]) hlive
  | inRegion ops l =>
   cases l with
   | nil=>exact gQ (fr':=Fr fn tmps k ds kd) (bC:=Fr fn bQ ζ ds' kd') hh (by simp[stepG,stepG.exec,Fr,G]) (by simp[stepG,stepG.exec,Fr,G]) (mv _ _ hk υ)
   | cons i l =>
    have AY:(ops.all fun o=>Vt T'.2.2 o)=true:=by
     simp only[Jr,YF,fE] at hx ⊢;exact fun i hi=>(hx i hi).2
    have hy:yielded ops tmps=yielded ops bQ:=hf.yielded ops AY;by_cases hw:((ops[i]?).map (Region.wanted · (yielded ops tmps))).getD false=true
    .cases ho:ops[i]? with
     | none=>rw[ho] at hw;cases hw
     | some o =>
      have hw2:Region.wanted o (yielded ops tmps)=true:=by rw[ho] at hw;simpa using hw
      obtain⟨hok,hpn,hz,hz',Zq⟩:=hn ops i l k o rfl ho hw2;have hw3:Region.wanted o (yielded ops bQ)=true:=by rw[<-hy];exact hw2
      have hA:stepG P main (G (Fr fn tmps (.inRegion ops (i::l)::k) ds kd) cs) w=stepG.apply P true (Fr fn tmps (.inRegion ops (i::l)::k) ds kd) cs none (execOp (Fr fn tmps (.inRegion ops (i::l)::k) ds kd).eval o) w:=by
       simp[stepG,stepG.exec,stepG.oper,Frame.oper?,Fr,G,hw2,ho]
      have hB:stepG P dK (G (Fr fn bQ (.inRegion ops (i::l)::ζ) ds' kd') χ) ω=stepG.apply P true (Fr fn bQ (.inRegion ops (i::l)::ζ) ds' kd') χ none (execOp (Fr fn bQ (.inRegion ops (i::l)::ζ) ds' kd').eval o) ω:=by
       simp[stepG,stepG.exec,stepG.oper,Frame.oper?,Fr,G,hw3,ho]
      rw[hA] at hlive ht;rw[hA,hB];exact SI hR hK hL hb hh hc rfl (fun R' hR' hRR hD=>NY hR' hL hD (hf.mono hRR) (by
       rw[YF] at AY;obtain⟨hlt,he⟩:=fT.1 ho;have:=AY i hlt;rw[he] at this;simp only[Vt,fE] at this;exact this.1) hT' hok hpn hz hz' Zq) hlive ht
    .have hw':((ops[i]?).map (Region.wanted · (yielded ops tmps))).getD false=false:=by simpa using hw
     have hw'':((ops[i]?).map (Region.wanted · (yielded ops bQ))).getD false=false:=by rw[<-hy];exact hw'
     exact gQ (fr':=(Fr fn tmps (.inRegion ops (i::l)::k) ds kd).finish undef) (bC:=(Fr fn bQ (.inRegion ops (i::l)::ζ) ds' kd').finish undef) hh (by simp[stepG,stepG.exec,Fr,G,hw']) (by simp[stepG,stepG.exec,Fr,G,hw'']) (hc.finish dG)
  | inRangeFunc l=>exact absurd hx (by simp[Jr])
  | endRangeFunc l=>exact absurd hx (by simp[Jr])
  | beginRound=>exact absurd hx (by simp[Jr])
  | call d b r s=>exact absurd hx (by simp[Jr])
  | extern r a=>exact absurd hx (by simp[Jr])
def resumed(c:Frame):Frame:=match c.mode with
 | .panicking ({recovered:=true,..}::older) =>
  match older.dropWhile (!·.goexit) with
  | []=>{c with mode:=.returning}
  | rest=>{c with mode:=.panicking rest}
 | _=>c
theorem KE{x y:Frame}(h:rF P R L K T x y):rF P R L K T (resumed x) (resumed y):=by
 obtain⟨fn,tmps,todo,defers,mode,kind,ro⟩:=x;obtain⟨fn',bQ,todo',defers',Ke,kind',ro'⟩:=y;have h0:=h;obtain⟨h1,h2,h3,h4,h5,h6,h7,h8,h8',h9,h10⟩:=h0;simp only at h1 h2 h3 h4 h5 h6 h7 h8 h8' h9 h10
 cases h6 with
 | run=>exact h
 | returning=>exact h
 | panicking hp=>cases hp with
  | nil=>exact h
  | @cons p q ps qs hv hr hg k =>
   obtain⟨pv,pr,pg⟩:=p;obtain⟨qv,qr,qg⟩:=q;simp only at hv hr hg;subst hr hg
   cases qr with
   | false=>exact h
   | true =>
    have hd:=k.drop;unfold resumed;dsimp only
    generalize List.dropWhile (fun x=>!x.goexit) ps=a at hd;generalize List.dropWhile (fun x=>!x.goexit) qs=b at hd
    cases hd with
    | nil=>exact⟨h1,h2,h3,h4,h5,.returning,h7,h8,h8',h9,h10⟩
    | cons hv hr hg k=>exact⟨h1,h2,h3,h4,h5,.panicking (.cons hv hr hg k),h7,h8,h8',h9,h10⟩
def back(k:CallKind)(c:Frame)(v:Value):Frame:=if k=.deferred then resumed c else c.finish v
theorem IB(x:Frame):(resumed x).kind=x.kind/\(resumed x).defers=x.defers:=by
 unfold resumed;split
 .split <;> exact⟨rfl,rfl⟩
 .exact⟨rfl,rfl⟩
theorem uh(x:Frame)(k:CallKind)(v:Value):(back k x v).kind=x.kind/\(back k x v).defers=x.defers:=by
 unfold back;split
 .exact IB x
 .exact⟨(nZ x v).1,(nZ x v).2.1⟩
theorem K4{x y:Frame}(h:rF P R L K T x y)(k:CallKind){v u:Value}(hv:VR R L v u):rF P R L K T (back k x v) (back k y u):=by
 unfold back;split
 .exact KE h
 .exact h.finish hv
theorem jE{main:Bool}{fr c:Frame}{cs:List Frame}{v:Value}{w:World}(hk:fr.kind=.normal\/fr.kind=.deferred):doReturn P main fr (c::cs) none v w=.go (G (back fr.kind c v) cs) w #[]:=by
 unfold doReturn back;rcases hk with hk|hk <;> rw[hk] <;> rfl
theorem Ki{α:Type}{f g:α->Sem Value}(h:∀ a,SR P R L (VR R L) (f a) (g a)):∀ l:List α,SR P R L (LV R L) (l.mapM f) (l.mapM g)
 | []=>by rw[qbs,qbs];exact ak .nil
 | a::l=>by
  rw[qbj,qbj];exact aM (h a) fun v w hv=>aM (Ki h l) fun x y hx=>ak (.cons hv hx)
theorem Nr(fn:Func){x y:Array Value}(h:AV R L x y):SR P R L (VR R L) (results fn x) (results fn y):=by
 unfold results;rw[qaP,qaP];refine aM (C:=AV R L) (Hw (Ki (fun r=>?_) _) fun a b hab=>hab.arr) fun a b hab=>?_
 .cases r with
  | tmp t=>exact ak (h.getD t dG)
  | cell a t=>exact aM (GZ (h.getD a dG)) fun a b hab=>BJ hab
 .have hs:=hab.1;by_cases h1:a.size=1
  .have h2:b.size=1:=by omega
   rw[dif_pos h1,dif_pos h2];exact ak (hab.2 0 _ _ (mJ (by omega)) (mJ (by omega)))
  .have h2:¬ b.size=1:=by omega
   rw[dif_neg h1,dif_neg h2];exact ak (VR.q9 hab)
theorem vV{fr:Frame}{av:List (Nat×Value)}(hi:Items P L K av fr.todo):fr.catches P=false:=by
 unfold Frame.catches;split
 .rename_i h1 h2
  rw[h2] at hi;exact absurd (aH.1 hi).1 (by simp[Jr])
 .rfl
theorem Jh{fr:Frame}(h:∀ d b r s k,fr.todo≠.call d b r s::k):fr.catches P=false:=by
 unfold Frame.catches;split
 .rename_i h1 h2
  exact absurd h2 (h _ _ _ _ _)
 .rfl
def adP(d:Deferred)(fr:Frame):Bool:=(d.target matches .nil)&&(fr.mode matches .panicking _)
theorem Jv(hR:GB P R)(hK:vB P L K)(hL:∀ f,L f=true->fK P f){fr aB:Frame}{cs χ:List Frame}{w ω:World}(hb:FZ R w.heap.size ω.heap.size)(hh:HR R L w.heap ω.heap)(hc:SL P R L K Z T B dI fr cs aB χ)(hZ:Z=false){d e:Deferred}(hd:DR R L d e)(hn:∀ b ts t c,d.target=.builtin b ts t c->(b=.unsafeString/\d.args.size=2)\/okB P ts b=true)(hlive:¬ oF (callDeferred P fr cs none d w))(ht:Tape w ω (gw (callDeferred P fr cs none d w)).drawn):Stp P R L K Z T B dI w ω (callDeferred P fr cs none d w) (callDeferred P aB χ none e ω):=by
 obtain⟨T',hf,hT',hput⟩:=hc.top;have hzz:Z=true->False:=fun z=>by rw[hZ] at z;cases z
 have hnil:¬ adP d fr=true:=fun hx=>by
  refine hlive ?_;have:∃ o,callDeferred P fr cs none d w=.ended o w #[]:=⟨_,by unfold callDeferred;exact if_pos hx⟩
  obtain⟨o,ho⟩:=this;rw[ho];trivial
 have hnil':¬ adP e aB=true:=by
  have h1:=hd.target;have h2:=hf.mode;unfold adP at hnil ⊢;generalize d.target=a at h1 hnil;generalize e.target=b at h1;generalize fr.mode=c at h2 hnil;generalize aB.mode=c' at h2
  cases h1 <;> cases h2 <;> exact hnil
 cases hr:(invoke d.target d.args).runT P w #[] with
 | mk r es' =>
 by_cases hft:Gt r
 .refine absurd ?_ hlive;unfold callDeferred;refine(congrArg oF (if_neg hnil)).mpr ?_;simp only[hr]
  cases r with
  | ok a w'=>exact hft.elim
  | halt h w' =>
   cases h <;> first|exact hft.elim|trivial
 .have hs:∀ R',GB P R'->(∀ a b,R a b->R' a b)->Dso R' L->SR P R' L (NR R' L Z) (invoke d.target d.args) (invoke e.target e.args):=fun R' hR' hRR _=>zM hR' hL (hd.mono hRR) hn fun _ _ _ _=>hZ
  have hgw:gw (callDeferred P fr cs none d w)=rw r:=by
   obtain⟨R',ι,hrr⟩:=Hz (C:=fun R'=>NR R' L Z) hR hb hh hs hr hft;unfold callDeferred;refine(congrArg gw (if_neg hnil)).trans ?_;simp only[hr]
   cases hrr with
   | panic hv=>exact lT _ _
   | ok hab=>cases hab with
    | recover =>
     dsimp only
     rw[lT];split <;> rfl
    | _=>exact lT _ _
  rw[hgw] at ht;obtain⟨k,ι,η,hk,jc,Ky⟩:=Bc (C:=fun R'=>NR R' L Z) hR hb hh hs hr ht hft;have hwd:=Ky.toWd;have hres:=Ky.res;have hc':=hc.mono (R':=ext R w.heap.size ω.heap.size k) vM;have same:∀ (w' ω':World),rw r=w'->rw ι=ω'->callDeferred P fr cs none d w=.go (G fr cs) w' (seen P fr.fn es')->callDeferred P aB χ none e ω=.go (G aB χ) ω' (seen P aB.fn η)->Stp P R L K Z T B dI w ω (callDeferred P fr cs none d w) (callDeferred P aB χ none e ω):=by
   intro w' ω' e1 e2 hA hB;rw[hA,hB];subst e1 e2;exact⟨k,hk,.go hc',hwd.seen hf.fn⟩
  cases hres with
  | @panic v u w' ω' hv =>
   have hA:callDeferred P fr cs none d w=.go (G (fr.raise [{v,recovered:=false}]) cs) w' (seen P fr.fn es'):=by
    unfold callDeferred;refine(if_neg hnil).trans ?_;simp only[hr];simp[GStep.after,G]
   have hB:callDeferred P aB χ none e ω=.go (G (aB.raise [{v:=u,recovered:=false}]) χ) ω' (seen P aB.fn η):=by
    unfold callDeferred;refine(if_neg hnil').trans ?_;simp only[jc];simp[GStep.after,G]
   rw[hA,hB];exact⟨k,hk,.go (hc'.raise (.cons hv rfl rfl .nil)),hwd.seen hf.fn⟩
  | @ok a b w' ω' hab =>
   cases hab with
   | @value v u hv =>
    refine same w' ω' rfl rfl ?_ ?_
    .unfold callDeferred;refine(if_neg hnil).trans ?_;simp only[hr];simp[GStep.after,G]
    .unfold callDeferred;refine(if_neg hnil').trans ?_;simp only[jc];simp[GStep.after,G]
   | skip =>
    refine same w' ω' rfl rfl ?_ ?_
    .unfold callDeferred;refine(if_neg hnil).trans ?_;simp only[hr];simp[GStep.after,G]
    .unfold callDeferred;refine(if_neg hnil').trans ?_;simp only[jc];simp[GStep.after,G]
   | @enter f hLf x y hxy =>
    have hA:callDeferred P fr cs none d w=.go (G (Frame.enter P f x .deferred) (fr::cs)) w' (seen P fr.fn es'):=by
     unfold callDeferred;refine(if_neg hnil).trans ?_;simp only[hr];simp[GStep.after,G]
    have hB:callDeferred P aB χ none e ω=.go (G (Frame.enter P f y .deferred) (aB::χ)) ω' (seen P aB.fn η):=by
     unfold callDeferred;refine(if_neg hnil').trans ?_;simp only[jc];simp[GStep.after,G]
    rw[hA,hB];exact⟨k,hk,.go (.up (Gj hK hLf (hL f hLf) hxy (.inr rfl)) (fun z=>(hzz z).elim) hc'),hwd.seen hf.fn⟩
   | @defer x y hz hxy =>
    refine same w' ω' rfl rfl ?_ ?_
    .unfold callDeferred;refine(if_neg hnil).trans ?_;simp only[hr];simp[GStep.after,G]
    .unfold callDeferred;refine(if_neg hnil').trans ?_;simp only[jc];simp[GStep.after,G]
   | @comm hzc x y hxy bl sh =>
    refine same w' ω' rfl rfl ?_ ?_
    .unfold callDeferred;refine(if_neg hnil).trans ?_;simp only[hr];simp[GStep.after,G]
    .unfold callDeferred;refine(if_neg hnil').trans ?_;simp only[jc];simp[GStep.after,G]
   | recover Zq =>
    have hm:=hf.mode;generalize hm1:fr.mode=m at hm;generalize hm2:aB.mode=m' at hm
    cases hm with
    | run =>
     refine same w' ω' rfl rfl ?_ ?_
     .unfold callDeferred;refine(if_neg hnil).trans ?_;simp only[hr,hm1];simp[GStep.after,G]
     .unfold callDeferred;refine(if_neg hnil').trans ?_;simp only[jc,hm2];simp[GStep.after,G]
    | panicking hp =>
     refine same w' ω' rfl rfl ?_ ?_
     .unfold callDeferred;refine(if_neg hnil).trans ?_;simp only[hr,hm1];simp[GStep.after,G]
     .unfold callDeferred;refine(if_neg hnil').trans ?_;simp only[jc,hm2];simp[GStep.after,G]
    | returning =>
     rcases Am Zq hc' with⟨n1,n2⟩|⟨v,u,a',b',n1,n2,n3,n4⟩
     .refine same w' ω' rfl rfl ?_ ?_
      .unfold callDeferred;refine(if_neg hnil).trans ?_;simp only[hr,hm1,n1];simp[GStep.after,G]
      .unfold callDeferred;refine(if_neg hnil').trans ?_;simp only[jc,hm2,n2];simp[GStep.after,G]
     .have hA:callDeferred P fr cs none d w=.go (G fr a') w' (seen P fr.fn es'):=by
       unfold callDeferred;refine(if_neg hnil).trans ?_;simp only[hr,hm1,n1];simp[GStep.after,G]
      have hB:callDeferred P aB χ none e ω=.go (G aB b') ω' (seen P aB.fn η):=by
       unfold callDeferred;refine(if_neg hnil').trans ?_;simp only[jc,hm2,n2];simp[GStep.after,G]
      rw[hA,hB];exact⟨k,hk,.go n4,hwd.seen hf.fn⟩
theorem nC{main:Bool}{fr:Frame}{cs:List Frame}{w:World}(h:fr.mode≠.run):stepG P main (G fr cs) w=unwind P main fr cs none w:=by
 unfold stepG G;dsimp only
 try rfl
 all_goals (split <;> first|rfl|(rename_i hm;exact absurd hm h)|skip)
 all_goals simp_all
theorem Nn(hR:GB P R)(hK:vB P L K)(hL:∀ f,L f=true->fK P f){main dK:Bool}{fr aB:Frame}{cs χ:List Frame}{w ω:World}(hb:FZ R w.heap.size ω.heap.size)(hh:HR R L w.heap ω.heap)(hc:SL P R L K Z T B dI fr cs aB χ)(hm:fr.mode≠.run)(hn:dS P L Z fr)(hne:cs=B->fr.defers≠[])(hlive:¬ oF (stepG P main (G fr cs) w))(ht:Tape w ω (gw (stepG P main (G fr cs) w)).drawn):Stp P R L K Z T B dI w ω (stepG P main (G fr cs) w) (stepG P dK (G aB χ) ω):=by
 obtain⟨T',hf,hT',hput⟩:=hc.top;have hm₁:aB.mode≠.run:=by
  have h:=hf.mode;intro e;rw[e] at h;generalize fr.mode=m at h hm
  cases h
  exact hm rfl
 rw[nC hm] at hlive ht;rw[nC hm,nC hm₁];obtain⟨dd,hdd,hds⟩:=hf.defers
 cases hd1:fr.defers with
 | cons d ds =>
  rw[hd1] at hds;have hZ:Z=false:=by
   cases hq:Z with
   | false=>rfl
   | true=>have:=hc.ZR hq;rw[hd1] at this;cases this
  have hT0:=hT' hZ;subst hT0;have hd2:aB.defers=dd:=by rw[hdd];exact Qq _
  cases hds with
  | @cons _ e _ es hde hds =>
   have ht0:=hde.target;obtain⟨dt,da⟩:=d;obtain⟨et,ea⟩:=e;simp only at ht0;have hA:unwind P main fr cs none w=callDeferred P {fr with defers:=ds} cs none ⟨dt,da⟩ w:=by
    unfold unwind;rw[hd1]
    cases ht0 <;> rfl
   have hB:unwind P dK aB χ none ω=callDeferred P {aB with defers:=es} χ none ⟨et,ea⟩ ω:=by
    unfold unwind;rw[hd2]
    cases ht0 <;> rfl
   rw[hA] at hlive ht;rw[hA,hB];have hsl2:SL P R L K Z T B dI {fr with defers:=ds} cs {aB with defers:=es} χ:=by
    cases hc with
    | bot h hk _ hT =>
     have hT:=hT hZ;subst hT;exact .bot ⟨h.fn,h.tmps,h.todo,h.items,⟨es,(Qq _).symm,hds⟩,h.mode,h.kind,h.norm,h.xO,h.ro,h.ro'⟩ hk (fun z=>by rw[hZ] at z;cases z) fun _=>rfl
    | up h _ k=>exact .up ⟨h.fn,h.tmps,h.todo,h.items,⟨es,(Qq _).symm,hds⟩,h.mode,h.kind,h.norm,h.xO,h.ro,h.ro'⟩ (fun z=>by rw[hZ] at z;cases z) k
   refine Jv hR hK hL hb hh hsl2 hZ hde (fun b ts t c hb=>?_) hlive ht;unfold dS at hn
   cases hx:fr.mode with
   | run=>exact absurd hx hm
   | returning=>rw[hx] at hn;exact hn _ ds b ts t c hd1 hb
   | panicking ch=>rw[hx] at hn;exact hn _ ds b ts t c hd1 hb
 | nil =>
  rw[hd1] at hds
  cases hds
  cases hc with
  | bot _ _ _ _=>exact absurd hd1 (hne rfl)
  | @up _ _ c c' cs χ hf hz hcs =>
  have hta:AV R L fr.tmps aB.tmps:=by
   obtain⟨tm,h1,h2⟩:=hf.tmps;have:aB.tmps=tm:=h2;rw[this];exact h1
  have hd2:aB.defers=[]:=by
   obtain⟨d2,h1,h2⟩:=hf.defers;rw[hd1] at h2
   cases h2
   rw[h1];rfl
  have hmm:=hf.mode;generalize hx:fr.mode=m at hmm;generalize hx₁:aB.mode=m' at hmm
  cases hmm with
  | run=>exact absurd hx hm
  | @panicking a b hp =>
   have hA:unwind P main fr (c::cs) none w=.go (G (c.raise a) cs) w #[]:=by
    unfold unwind;rw[hd1,hx];dsimp only
    rw[vV hf.items];rfl
   have hB:unwind P dK aB (c'::χ) none ω=.go (G (c'.raise b) χ) ω #[]:=by
    unfold unwind;rw[hd2,hx₁];dsimp only
    rw[Jh (hf.todo.calm (Qr hf.items))];rfl
   rw[hA,hB];exact Dv hh (hcs.raise hp)
  | returning =>
   have hk:=hf.norm;have υ:aB.kind=.normal\/aB.kind=.deferred:=hf.xO;have hkk:aB.kind=fr.kind:=hf.kind
   cases hfn:P.funcs[fr.fn]? with
   | none =>
    have hA:unwind P main fr (c::cs) none w=.go (G (back fr.kind c (fr.tmps.getD 0 undef)) cs) w #[]:=by
     unfold unwind;rw[hd1,hx];dsimp only
     rw[hfn];exact jE hk
    have hB:unwind P dK aB (c'::χ) none ω=.go (G (back fr.kind c' (aB.tmps.getD 0 undef)) χ) ω #[]:=by
     unfold unwind;rw[hd2,hx₁];dsimp only
     rw[hf.fn,hfn,<-hkk];exact jE υ
    rw[hA,hB];exact Dv hh (hcs.with (fun _ hcc=>K4 hcc _ (hta.getD 0 dG)) (uh _ _ _).1 fun z=>(uh _ _ _).2.trans (hcs.ZR z))
   | some fn =>
    cases hr:(results fn fr.tmps).runT P w #[] with
    | mk r es' =>
    by_cases hft:Gt r
    .refine absurd ?_ hlive;unfold unwind;rw[hd1,hx];dsimp only
     rw[hfn];dsimp only
     rw[hr]
     cases r with
     | ok a w'=>exact hft.elim
     | halt h w'=>cases h <;> first|exact hft.elim|trivial
    .have hs:∀ R',GB P R'->(∀ a b,R a b->R' a b)->Dso R' L->SR P R' L (VR R' L) (results fn fr.tmps) (results fn aB.tmps):=fun R' hR' hRR _=>Nr fn (hta.mono hRR)
     have hgw:gw (unwind P main fr (c::cs) none w)=rw r:=by
      obtain⟨R',ι,hrr⟩:=Hz (C:=fun R'=>VR R' L) hR hb hh hs hr hft;unfold unwind;rw[hd1,hx];dsimp only
      rw[hfn];dsimp only
      rw[hr];dsimp only
      cases hrr with
      | panic hv=>exact lT _ _
      | ok hab =>
       dsimp only
       rw[lT,jE hk];rfl
     rw[hgw] at ht;obtain⟨k,ι,η,hk',jc,Ky⟩:=Bc (C:=fun R'=>VR R' L) hR hb hh hs hr ht hft;have hwd:=Ky.toWd;have hres:=Ky.res
     cases hres with
     | @panic v u w' ω' hv =>
      refine absurd ?_ hlive;unfold unwind;rw[hd1,hx];dsimp only
      rw[hfn];dsimp only
      rw[hr];trivial
     | @ok v u w' ω' hv =>
      have hA:unwind P main fr (c::cs) none w=.go (G (back fr.kind c v) cs) w' (seen P fr.fn es'):=by
       unfold unwind;rw[hd1,hx];dsimp only
       rw[hfn];dsimp only
       rw[hr];dsimp only
       rw[jE hk];simp[GStep.after]
      have hB:unwind P dK aB (c'::χ) none ω=.go (G (back fr.kind c' u) χ) ω' (seen P aB.fn η):=by
       unfold unwind;rw[hd2,hx₁];dsimp only
       rw[hf.fn,hfn];dsimp only
       rw[jc];dsimp only
       rw[jE υ,hkk];simp[GStep.after]
      rw[hA,hB];exact⟨k,hk',.go ((hcs.mono vM).with (fun _ hcc=>K4 hcc _ hv) (uh _ _ _).1 fun z=>(uh _ _ _).2.trans (hcs.ZR z)),hwd.seen hf.fn⟩
theorem xV(hR:GB P R)(hK:vB P L K)(hL:∀ f,L f=true->fK P f){main dK:Bool}{fr aB:Frame}{cs χ:List Frame}{w ω:World}(hb:FZ R w.heap.size ω.heap.size)(hh:HR R L w.heap ω.heap)(hc:SL P R L K Z T B dI fr cs aB χ)(hn:dS P L Z fr)(hne:cs=B->fr.mode=.run\/fr.defers≠[])(hlive:¬ oF (stepG P main (G fr cs) w))(ht:Tape w ω (gw (stepG P main (G fr cs) w)).drawn):Stp P R L K Z T B dI w ω (stepG P main (G fr cs) w) (stepG P dK (G aB χ) ω):=by
 by_cases hm:fr.mode=.run
 .exact aan hR hK hL hb hh hc hm hn hlive ht
 .exact Nn hR hK hL hb hh hc hm hn (fun h=>(hne h).resolve_left hm) hlive ht
end
end Sr
end Go.Proofs.YtdbgldieilgnmaaGreatDoor
