/- J02 -/
import Derived.Test.YtdbgldieilgnmaaGreatDoorJ01
set_option linter.unusedVariables false
set_option linter.unusedSimpArgs false
set_option maxHeartbeats 8000000
set_option maxRecDepth 100000
namespace Go.Proofs.YtdbgldieilgnmaaGreatDoor
section
open Go.Conc
namespace Sr
def G5(P:Program)(t:TypeId):Bool:=match P.info? t with
 | some i=>match i.zero with
  | some v=>clean v
  | none=>true
 | none=>true
inductive LV(R:Nat->Nat->Prop)(L:FuncId->Bool):List Value->List Value->Prop
 | nil:LV R L [] []
 | cons {v w:Value} {x y:List Value} (h:VR R L v w) (k:LV R L x y):LV R L (v::x) (w::y)
section
variable {P:Program}{R:Nat->Nat->Prop}{L:FuncId->Bool}{α β:Type}{C:α->α->Prop}{D:β->β->Prop}
theorem LV.of:∀ {x y:List Value},x.length=y.length->(∀ (i:Nat)(v w:Value),x[i]? = some v->y[i]? = some w->VR R L v w)->LV R L x y
 | [],[],_,_=>.nil
 | v::x,w::y,h,k=>.cons (k 0 v w rfl rfl) (LV.of (by simpa using h) fun i a b ha hb=>k (i+1) a b (by simpa using ha) (by simpa using hb))
theorem LV.len:∀ {x y:List Value},LV R L x y->x.length=y.length
 | _,_,.nil=>rfl
 | _,_,.cons _ k=>by simp[LV.len k]
theorem LV.get:∀ {x y:List Value},LV R L x y->∀ (i:Nat)(v w:Value),x[i]? = some v->y[i]? = some w->VR R L v w
 | _,_,.cons h k,0,a,b,ha,hb=>by simp at ha hb;subst ha hb;exact h
 | _,_,.cons h k,i+1,a,b,ha,hb=>LV.get k i a b (by simpa using ha) (by simpa using hb)
theorem AV.list{x y:Array Value}(h:AV R L x y):LV R L x.toList y.toList:=LV.of (by simpa using h.1) fun i v w hv hw=>h.2 i v w (by simpa using hv) (by simpa using hw)
theorem LV.arr{x y:List Value}(h:LV R L x y):AV R L x.toArray y.toArray:=⟨by simpa using h.len,fun i v w hv hw=>h.get i v w (by simpa using hv) (by simpa using hw)⟩
theorem LV.app{x y a b:List Value}(h:LV R L x y)(k:LV R L a b):LV R L (x++a) (y++b):=by
 induction h with
 | nil=>exact k
 | cons h _ ih=>exact .cons h ih
theorem AR.add{a b:Addr}(h:AR R a b)(n:Nat):AR R (a.add n) (b.add n):=by
 unfold Addr.add;split
 .exact h
 .exact⟨h.1,by simp[h.2.1],rfl⟩
theorem bG{f g:Program->Sem β}(h:SR P R L D (f P) (g P)):SR P R L D (program >>= f) (program >>= g):=⟨_,rfl,h⟩
theorem aP{t:TypeId}{f g:TypeDesc->Sem β}(h:∀ d,P.underlying t=some d->SR P R L D (f d) (g d)):SR P R L D (underlying t >>= f) (underlying t >>= g):=by
 unfold underlying;refine aM (C:=fun a b=>a=b/\P.underlying t=some a) ?_ fun a b ⟨e,hd⟩=>by subst e;exact h a hd
 refine bG ?_
 cases hd:P.underlying t with
 | none=>exact aj _ _
 | some d=>exact ak ⟨rfl,rfl⟩
theorem fJ{t:TypeId}{f g:TypeInfo->Sem β}(h:∀ i,P.info? t=some i->SR P R L D (f i) (g i)):SR P R L D (typeInfo t >>= f) (typeInfo t >>= g):=by
 unfold typeInfo;refine aM (C:=fun a b=>a=b/\P.info? t=some a) ?_ fun a b ⟨e,hd⟩=>by subst e;exact h a hd
 refine bG ?_
 cases hd:P.info? t with
 | none=>exact aj _ _
 | some d=>exact ak ⟨rfl,rfl⟩
theorem bL{t:TypeId}{f g:Nat->Sem β}(h:∀ n,SR P R L D (f n) (g n)):SR P R L D (sizeOf t >>= f) (sizeOf t >>= g):=by
 unfold sizeOf;refine aJ ?_ h;exact fJ fun i _=>aI _
theorem kV{t:TypeId}{f g:Value->Sem β}(hz:G5 P t=true)(h:∀ v,VR R L v v->SR P R L D (f v) (g v)):SR P R L D (zeroValue t >>= f) (zeroValue t >>= g):=by
 unfold zeroValue;refine aM (C:=fun a b=>a=b/\VR R L a a) ?_ fun a b ⟨e,hd⟩=>by subst e;exact h a hd
 refine fJ fun i hi=>?_
 unfold G5 at hz;rw[hi] at hz;dsimp only at hz
 cases hv:i.zero with
 | none=>exact aW _ _
 | some v =>
  rw[hv] at hz;exact ak ⟨rfl,yg hz⟩
theorem gP{q:Question}{f g:Nat->Sem β}(h:∀ n,SR P R L D (f n) (g n)):SR P R L D (choose q >>= f) (choose q >>= g):=⟨_,rfl,h⟩
theorem KM{t:TypeId}{f g:Bool->Sem β}(h:∀ b,SR P R L D (f b) (g b)):SR P R L D (isAgg t >>= f) (isAgg t >>= g):=by
 unfold isAgg;refine aJ ?_ h;refine aP fun d _=>?_
 cases d <;> exact aI _
theorem xK{a b:Addr}(h:AR R a b):SR P R L (VR R L) (load a) (load b):=⟨b,_,rfl,rfl,h,fun v u hv=>⟨u,rfl,hv⟩⟩
theorem Xh{a b:Addr}(h:AR R a b){v u:Value}(hv:VR R L v u):SR P R L (·=·) (store a v) (store b u):=⟨b,u,_,rfl,rfl,h,hv,(),rfl,rfl⟩
theorem ug{o o':Obj}(h:OR R L o o'):SR P R L R (newObj o) (newObj o'):=⟨o',_,rfl,h,fun n n' hn=>⟨n',rfl,hn⟩⟩
theorem fq{r r':Nat}(h:R r r'):SR P R L (OR R L) (getObj r) (getObj r'):=⟨r',_,rfl,h,fun o o' ho=>⟨o',rfl,ho⟩⟩
theorem kE{r r':Nat}(h:R r r'){o o':Obj}(ho:OR R L o o'):SR P R L (·=·) (setObj r o) (setObj r' o'):=⟨r',o',_,rfl,h,ho,(),rfl,rfl⟩
theorem iB{r r':Nat}(h:R r r'):SR P R L (·=·) (shape r) (shape r'):=⟨r',_,rfl,.inl ⟨h,fun x=>⟨x,rfl,rfl⟩⟩⟩
theorem Gs{a b:Addr}(h:AR R a b)(n:Nat):SR P R L (·=·) (freeze a n) (freeze b n):=⟨b,_,rfl,h,(),rfl,rfl⟩
theorem nA{a b:Addr}(h:AR R a b):SR P R L (·=·) (frozen a) (frozen b):=⟨b,_,rfl,.inl ⟨h,fun x=>⟨x,rfl,rfl⟩⟩⟩
theorem za{r:Nat}(h:L (2*r+1000000001)=true):SR P R L (fun x y=>x=y/\∃ p,x=some p) (shape r) (shape r):=⟨r,_,rfl,.inr ⟨rfl,h,fun e n=>⟨_,rfl,rfl,_,rfl⟩⟩⟩
theorem vO{a b:Addr}(h0:a.block=b.block)(h:L (2*a.block+1000000001)=true):SR P R L (fun x y=>x=false/\y=false) (frozen a) (frozen b):=⟨b,_,rfl,.inr ⟨h0,h,false,rfl,rfl,rfl⟩⟩
theorem IW{m:Mark}(hm:Mk m=true):SR P R L (·=·) (mark m) (mark m):=⟨_,rfl,hm,(),rfl,rfl⟩
theorem DT(n:Nat):SR P R L (·=·) (askRoom n) (askRoom n):=by
 unfold askRoom;exact aF (IW rfl) (aI _)
theorem pG{t:TypeId}{c d:Array Value}(h:AV R L c d):SR P R L (AR R) (newRow t c) (newRow t d) :=aM (ug (.cells c d t _ h)) fun n n' hn=>ak ⟨hn,rfl,rfl⟩
theorem Gy{t:TypeId}{v w:Value}(h:VR R L v w):SR P R L (AR R) (newVar t v) (newVar t w):=pG h.cells
theorem pI{a b:Addr}(h:AR R a b):∀ (n i:Nat)(x y:Array Value),AV R L x y->SR P R L (AV R L) (loadCellsFrom a i n x) (loadCellsFrom b i n y)
 | 0,i,x,y,hx=>ak hx
 | n+1,i,x,y,hx=>aM (xK (h.add i)) fun v u hv=>pI h n (i+1) _ _ (hx.push hv)
theorem qw{a b:Addr}(h:AR R a b)(n:Nat):SR P R L (AV R L) (loadCells a n) (loadCells b n):=pI h n 0 _ _ AV.nil
theorem iY{a b:Addr}(h:AR R a b):∀ {x y:List Value},LV R L x y->∀ i,SR P R L (·=·) (storeCells a x i) (storeCells b y i)
 | _,_,.nil,i=>aI _
 | _,_,.cons hv k,i=>aJ (Xh (h.add i) hv) fun _=>iY h k (i+1)
theorem BJ{t:TypeId}{a b:Addr}(h:AR R a b):SR P R L (VR R L) (loadVar t a) (loadVar t b):=by
 unfold loadVar;refine KM fun c=>?_
 refine aF ?_ (xK h);exact bL fun n=>aM (qw h n) fun x y hx=>ak (VR.DC hx)
theorem Kk{t:TypeId}{a b:Addr}(h:AR R a b){v w:Value}(hv:VR R L v w):SR P R L (·=·) (storeVar t a v) (storeVar t b w):=by
 unfold storeVar;refine bL fun n=>?_
 have hs:v.cells.size=w.cells.size:=hv.cells.1;rw[hs];exact aF dH (iY h hv.cells.list 0)
theorem kU{t:TypeId}{x y:Array Value}(h:AV R L x y)(off:Nat):SR P R L (VR R L) (part t x off) (part t y off):=by
 unfold part;refine KM fun c=>?_
 refine aF (bL fun n=>ak (VR.DC (h.extract _ _))) ?_;rcases h.get off with⟨h1,h2⟩|⟨v,w,h1,h2,h3⟩
 .rw[h1];exact aj _ _
 .rw[h1,h2];exact ak h3
theorem qo{v w:Value}(h:VR R L v w):SR P R L (·=·) (asIntOf v) (asIntOf w):=by
 cases h <;> first|exact aI _|exact aW _ _|exact aj _ _
theorem lu{v w:Value}(h:VR R L v w):SR P R L (·=·) (asInt v) (asInt w):=aJ (qo h) fun _=>aI _
theorem zn{v w:Value}(h:VR R L v w):SR P R L (·=·) (asBool v) (asBool w):=by
 cases h <;> first|exact aI _|exact aj _ _
theorem VJ{v w:Value}(h:VR R L v w):SR P R L (AV R L) (asAgg v) (asAgg w):=by
 cases h <;> first|exact aj _ _|skip
 exact ak ⟨by assumption,by assumption⟩
theorem SQ{t:TypeId}:SR P R L (·=·) (elemOf t) (elemOf t):=by
 unfold elemOf;refine aP fun d _=>?_
 cases d <;> first|exact aI _|exact aj _ _
def afY:RuntimeError->Bool
 | .bounds ..|.error _|.plain _|.nilDeref=>true
 | _=>false
theorem jK{e:RuntimeError}(he:afY e=true):SR P R L C (runtimePanic e:Sem α) (runtimePanic e):=by
 unfold runtimePanic;refine bG ?_;dsimp only
 cases e <;> first|(cases he;done)|exact BX (yg rfl)
theorem mY(k:IntKind)(x y:Int)(c:BoundsCode):SR P R L C (boundsPanic k x y c:Sem α) (boundsPanic k x y c):=by
 unfold boundsPanic;dsimp only
 split
 .exact aJ (Hw (C:=(·=·)) (by exact⟨_,rfl,fun n=>⟨n,rfl,rfl⟩⟩) fun a b e=>by subst e;rfl) fun _=>jK rfl
 .exact aJ (aI _) fun _=>jK rfl
theorem lC{v w:Value}(h:VR R L v w):SR P R L (AR R) (Instr.sureAddr v) (Instr.sureAddr w):=by
 cases h <;> first|exact aj _ _|skip
 exact ak (by assumption)
theorem GZ{v w:Value}(h:VR R L v w):SR P R L (AR R) (asAddr v) (asAddr w):=by
 unfold asAddr
 cases h <;> dsimp only <;> first|exact aj _ _|exact jK (e:=.nilDeref) rfl|skip
 exact ak (by assumption)
theorem Sl{t:TypeId}{v w:Value}(h:VR R L v w):SR P R L (VR R L) (Instr.loadAt t v) (Instr.loadAt t w):=aM (lC h) fun a b hab=>BJ hab
theorem PD{t:TypeId}{v w x y:Value}(h:VR R L v w)(hx:VR R L x y):SR P R L (·=·) (Instr.storeAt t v x) (Instr.storeAt t w y):=aM (lC h) fun a b hab=>Kk hab hx
theorem X4{t:TypeId}(hz:G5 P t=true):SR P R L (VR R L) (Instr.alloc t true (.tuple #[])) (Instr.alloc t true (.tuple #[])):=by
 unfold Instr.alloc;exact kV hz fun z h=>aM (Gy h) fun a b hab=>ak (.ptr a b hab)
theorem ad1{t:TypeId}{v w:Value}(h:VR R L v w):SR P R L (VR R L) (Instr.box t v) (Instr.box t w):=aM (Gy h) fun a b hab=>ak (.ptr a b hab)
theorem GJ{r r':Nat}(h:R r r'):SR P R L (·=·) (viewAt r) (viewAt r'):=by
 unfold viewAt;refine aJ (iB h) fun o=>?_
 refine aF (aI _) ?_;refine aM (fq h) fun o o' ho=>?_
 cases ho <;> exact aI _
theorem tY{a b:Addr}(h:AR R a b):SR P R L (·=·) (noView a) (noView b):=by
 unfold noView;refine aJ (GJ h.1) fun o=>?_
 exact aF (aW _ _) (aI _)
theorem kL{a b:Addr}(h:AR R a b):SR P R L (·=·) (byteOf a) (byteOf b):=by
 unfold byteOf;rw[h.2.2]
 cases hb:b.spot with
 | some s=>exact aI _
 | none =>
  refine bG ?_;refine aJ (tY h) fun _=>?_
  refine aJ (iB h.1) fun o=>?_
  cases o with
  | none=>exact aj _ _
  | some x =>
   obtain⟨e,n⟩:=x;rw[h.2.1];dsimp only
   refine aF (aI _) ?_;split
   .exact aI _
   .exact aj _ _
theorem RV{a b:Addr}(h:AR R a b)(c n:Nat):SR P R L (AR R) (partAt a c n) (partAt b c n):=by
 unfold partAt;refine aJ (kL h) fun m=>?_
 have h2:AR R {block:=a.block,off:=a.off+c} {block:=b.block,off:=b.off+c}:=⟨h.1,by simp[h.2.1],rfl⟩;dsimp only
 refine aJ (kL h2) fun m2=>?_
 split
 .exact ak h2
 .exact ak ⟨h2.1,h2.2.1,rfl⟩
theorem E9{a b:Addr}(h:AR R a b)(f:Field):SR P R L (AR R) (fieldPlace a f) (fieldPlace b f):=by
 unfold fieldPlace;exact bL fun n=>aF (RV h _ _) (ak (h.add _))
theorem Nc{s:TypeId}{v w:Value}(h:VR R L v w)(i:Nat):SR P R L (VR R L) (Instr.fieldAt s v i) (Instr.fieldAt s w i):=by
 unfold Instr.fieldAt;refine aP fun d hd=>?_
 cases d with
 | struct fs =>
  dsimp only
  cases fs[i]? with
  | none=>exact aj _ _
  | some f=>exact aM (lC h) fun a b hab=>aM (E9 hab f) fun a b hab=>ak (.ptr a b hab)
 | _=>exact aj _ _
theorem O4{t:TypeId}{v w i j:Value}(h:VR R L v w)(hi:VR R L i j):SR P R L (VR R L) (Instr.indexAt t v i) (Instr.indexAt t w j):=by
 unfold Instr.indexAt;refine aJ (qo hi) fun ki=>?_
 obtain⟨k,i⟩:=ki;dsimp only
 refine aP fun d hd=>?_
 cases d with
 | array len elem =>
  dsimp only
  refine aM (lC h) fun a b hab=>?_
  refine rz ?_;refine aP fun d2 hd2=>?_
  dsimp only
  exact aF (bL fun n=>ak (.ptr _ _ (hab.add _))) (aF (aW _ _) (mY _ _ _ _))
 | slice elem =>
  cases h with
  | iq n c =>
   refine rz ?_;refine aP fun d2 hd2=>?_
   dsimp only
   exact mY _ _ _ _
  | slice a b n c hab =>
   refine rz ?_;refine aP fun d2 hd2=>?_
   dsimp only
   exact aF (bL fun n=>ak (.ptr _ _ (hab.add _))) (aF (aW _ _) (mY _ _ _ _))
  | _=>exact dH
 | _=>exact dH
theorem gN{v w:Value}(h:VR R L v w)(y:Nat)(c:BoundsCode):SR P R L (·=·) (Instr.sliceBound v y c) (Instr.sliceBound w y c):=by
 unfold Instr.sliceBound;refine aJ (qo h) fun ki=>?_
 obtain⟨k,i⟩:=ki;exact aF (aI _) (mY _ _ _ _)
inductive VO(R:Nat->Nat->Prop)(L:FuncId->Bool):Option Value->Option Value->Prop
 | none:VO R L none none
 | some {v w:Value} (h:VR R L v w):VO R L (some v) (some w)
theorem iE{lo lo' hi hi' mx mx':Option Value}(b:Bool)(n m:Nat)(h1:VO R L lo lo')(h2:VO R L hi hi')(h3:VO R L mx mx'):SR P R L (·=·) (Instr.sliceBounds b n m lo hi mx) (Instr.sliceBounds b n m lo' hi' mx'):=by
 unfold Instr.sliceBounds
 cases h3 with
 | none =>
  refine rz ?_
  cases h2 with
  | none =>
   refine rz ?_
   cases h1 with
   | none=>exact aI _
   | some k1=>exact aJ (gN k1 _ _) fun _=>aI _
  | some k2 =>
   refine aJ (gN k2 _ _) fun h=>?_
   cases h1 with
   | none=>exact aI _
   | some k1=>exact aJ (gN k1 _ _) fun _=>aI _
 | some k3 =>
  refine aJ (gN k3 _ _) fun m=>?_
  cases h2 with
  | none=>exact dH
  | some k2 =>
   refine aJ (gN k2 _ _) fun h=>?_
   cases h1 with
   | none=>exact aI _
   | some k1=>exact aJ (gN k1 _ _) fun _=>aI _
theorem Wq{t:TypeId}{v w:Value}{lo lo' hi hi' mx mx':Option Value}(h:VR R L v w)(h1:VO R L lo lo')(h2:VO R L hi hi')(h3:VO R L mx mx'):SR P R L (VR R L) (Instr.slice t v lo hi mx) (Instr.slice t w lo' hi' mx'):=by
 unfold Instr.slice;refine aP fun d hd=>?_
 cases d with
 | string =>
  cases h with
  | string s =>
   dsimp only
   cases h3 with
   | none=>exact aJ (iE _ _ _ h1 h2 .none) fun x=>ak (.string _)
   | some k=>exact dH
  | _=>exact aj _ _
 | slice elem =>
  cases h with
  | iq n c =>
   dsimp only
   refine aJ (iE _ _ _ h1 h2 h3) fun x=>?_
   obtain⟨l,h,m⟩:=x;dsimp only
   refine bL fun s=>ak ?_
   split <;> exact .iq _ _
  | slice a b n c hab =>
   dsimp only
   refine aJ (iE _ _ _ h1 h2 h3) fun x=>?_
   obtain⟨l,h,m⟩:=x;dsimp only
   refine bL fun s=>ak ?_
   split
   .exact .slice _ _ _ _ hab
   .exact .slice _ _ _ _ (hab.add _)
  | _=>exact aj _ _
 | pointer arr =>
  dsimp only
  refine aM (GZ h) fun a b hab=>?_
  refine aP fun d2 hd2=>?_
  cases d2 with
  | array n elem =>
   refine aJ (iE _ _ _ h1 h2 h3) fun x=>?_
   obtain⟨l,h,m⟩:=x;dsimp only
   refine bL fun s=>ak ?_
   split
   .exact .slice _ _ _ _ hab
   .exact .slice _ _ _ _ (hab.add _)
  | _=>exact aj _ _
 | _=>exact aj _ _
theorem Ow{t:TypeId}{v w:Value}{lo lo' hi hi' mx mx':Option Value}(h:VR R L v w)(h1:VO R L lo lo')(h2:VO R L hi hi')(h3:VO R L mx mx'):SR P R L (VR R L) (Instr.sliceAt t v lo hi mx) (Instr.sliceAt t w lo' hi' mx'):=by
 unfold Instr.sliceAt;refine aP fun d hd=>?_
 cases d with
 | array n elem =>
  dsimp only
  refine aM (lC h) fun a b hab=>?_
  refine aJ (iE _ _ _ h1 h2 h3) fun x=>?_
  obtain⟨l,h,m⟩:=x;dsimp only
  refine bL fun s=>ak ?_
  split
  .exact .slice _ _ _ _ hab
  .exact .slice _ _ _ _ (hab.add _)
 | _=>exact Wq h h1 h2 h3
theorem N7{t:TypeId}{v w:Value}(h:VR R L v w):SR P R L (VR R L) (Instr.arrayAt t v) (Instr.arrayAt t w):=by
 unfold Instr.arrayAt;refine aP fun d hd=>?_
 cases d with
 | array n elem =>
  cases h with
  | iq n c=>exact aF (jK rfl) (ak .gV)
  | slice a b n c hab=>exact aF (jK rfl) (ak (.ptr _ _ hab))
  | _=>exact aj _ _
 | _=>exact aj _ _
theorem VY{t:TypeId}{v w:Value}(h:VR R L v w)(i:Nat):SR P R L (VR R L) (Instr.field t v i) (Instr.field t w i):=by
 unfold Instr.field;refine aP fun d hd=>?_
 cases d with
 | struct fs =>
  dsimp only
  cases fs[i]? with
  | none=>exact aj _ _
  | some f=>exact aM (VJ h) fun x y hx=>kU hx _
 | _=>exact aj _ _
theorem Wt{t:TypeId}{v w i j:Value}(h:VR R L v w)(hi:VR R L i j):SR P R L (VR R L) (Instr.index t v i) (Instr.index t w j):=by
 unfold Instr.index;refine aJ (qo hi) fun ki=>?_
 obtain⟨k,i⟩:=ki;dsimp only
 refine aP fun d hd=>?_
 cases d with
 | array len elem =>
  cases h with
  | agg x y hx hv=>exact aF (bL fun n=>kU ⟨hx,hv⟩ _) (mY _ _ _ _)
  | _=>exact aj _ _
 | string =>
  cases h with
  | string s =>
   dsimp only
   generalize (if 0<=i then s[i.toNat]? else none)=o
   cases o with
   | none=>exact mY _ _ _ _
   | some b=>exact ak (.int _ _)
  | _=>exact aj _ _
 | _=>exact aj _ _
theorem NH{v w:Value}(h:VR R L v w)(i:Nat):SR P R L (VR R L) (Instr.extract v i) (Instr.extract w i):=by
 unfold Instr.extract
 cases h with
 | tuple x y hx hv =>
  dsimp only
  rcases AV.get (⟨hx,hv⟩:AV R L x y) i with⟨h1,h2⟩|⟨a,b,h1,h2,h3⟩
  .rw[h1];exact aj _ _
  .rw[h1,h2];exact ak h3
 | _=>exact aj _ _
theorem Ag(o:BinOp)(k:IntKind)(x y:Int):SR P R L (VR R L) (Op.intArith o k x y) (Op.intArith o k x y):=by
 unfold Op.intArith
 cases o <;> first|exact ak (.int _ _)|exact aj _ _
theorem Co(o:BinOp)(k:IntKind)(x y:Int):SR P R L (VR R L) (Op.intBits o k x y) (Op.intBits o k x y):=by
 unfold Op.intBits
 cases o <;> first|exact ak (.int _ _)|exact aj _ _
theorem RO(o:BinOp)(x y:Int):SR P R L (VR R L) (Op.intCmp o x y) (Op.intCmp o x y):=by
 unfold Op.intCmp
 cases o <;> first|exact ak (.bool _)|exact aj _ _
theorem TI(o:BinOp)(k:IntKind)(x y:Int):SR P R L (VR R L) (Op.intDiv o k x y) (Op.intDiv o k x y):=by
 unfold Op.intDiv;refine aF (jK rfl) ?_
 cases o <;> first|exact ak (.int _ _)|exact aj _ _
theorem JU(o:BinOp)(k:IntKind)(x:Int)(k2:IntKind)(y:Int):SR P R L (VR R L) (Op.shift o k x k2 y) (Op.shift o k x k2 y):=by
 unfold Op.shift;refine aF (jK rfl) ?_
 cases o <;> first|exact ak (.int _ _)|exact aj _ _
theorem sP(o:BinOp)(x y:ByteArray):SR P R L (VR R L) (Op.stringOp o x y) (Op.stringOp o x y):=by
 unfold Op.stringOp
 cases o <;> first|exact ak (.bool _)|exact aj _ _|exact aF (aW _ _) (ak (.string _))
theorem Wz(o:UnOp){v w:Value}(h:VR R L v w):SR P R L (VR R L) (Op.unary o v) (Op.unary o w):=by
 unfold Op.unary
 cases o <;> cases h <;> dsimp only <;> first|exact Ag _ _ _ _|exact Co _ _ _ _|exact ak (.bool _)|exact aW _ _|exact aj _ _
end
end Sr
end
section
open Go.Conc
namespace Sr
structure PB(R:Nat->Nat->Prop):Prop where
 inj:∀ a a' b,R a b->R a' b->a=a'
 fn:∀ a b b',R a b->R a b'->b=b'
structure GB(P:Program)(R:Nat->Nat->Prop):Prop extends PB R where
 g1:∀ g,g<P.globals.size->∀ b,R g b->b=g
 g2:∀ g,g<P.globals.size->∀ a,R a g->a=g
 gl:∀ g,g<P.globals.size->R g g
section
variable {P:Program}{R:Nat->Nat->Prop}{L:FuncId->Bool}{α β:Type}{C:α->α->Prop}{D:β->β->Prop}
theorem PB.beq(hR:PB R){a b x y:Nat}(h:R a b)(k:R x y):(a==x)=(b==y):=by
 rw[qbG];simp only[beq_iff_eq];exact⟨fun e=>hR.fn a b y h (e ▸ k),fun e=>hR.inj a x y (e ▸ h) k⟩
theorem PB.addr(hR:PB R){a b x y:Addr}(h:AR R a b)(k:AR R x y):(a==x)=(b==y):=by
 rw[qbG];simp only[beq_iff_eq];obtain⟨a1,a2,a3⟩:=a;obtain⟨b1,b2,b3⟩:=b;obtain⟨x1,x2,x3⟩:=x;obtain⟨y1,y2,y3⟩:=y;obtain⟨h1,h2,h3⟩:=h;obtain⟨k1,k2,k3⟩:=k;simp only at h1 h2 h3 k1 k2 k3;subst h2 h3 k2 k3;simp only[Addr.mk.injEq];exact⟨fun⟨e1,e2,e3⟩=>⟨hR.fn _ _ _ h1 (e1 ▸ k1),e2,e3⟩,fun⟨e1,e2,e3⟩=>⟨hR.inj _ _ _ (e1 ▸ h1) k1,e2,e3⟩⟩
theorem Au{r r':Nat}(h:R r r'):SR P R L (fun x y=>(x=none/\y=none)\/∃ a b l,x=some (a,l)/\y=some (b,l)/\AR R a b) (numberAt r) (numberAt r'):=by
 unfold numberAt;refine aJ (iB h) fun o=>?_
 refine aF (ak (.inl ⟨rfl,rfl⟩)) ?_;refine aM (fq h) fun o o' ho=>?_
 cases ho with
 | number a b l hab=>exact ak (.inr ⟨a,b,l,rfl,rfl,hab⟩)
 | _=>exact ak (.inl ⟨rfl,rfl⟩)
theorem aV{a b:Addr}(h:AR R a b):SR P R L (fun x y=>AR R x.1 y.1/\x.2=y.2) (behindNumber a) (behindNumber b):=by
 unfold behindNumber;refine aM (Au h.1) fun x y hxy=>?_
 rcases hxy with⟨rfl,rfl⟩|⟨c,d,l,rfl,rfl,k⟩
 .exact ak ⟨h,rfl⟩
 .exact ak ⟨k,rfl⟩
theorem KH{a b:Addr}(h:AR R a b)(l:Bool):SR P R L (VR R L) (asNumber a l) (asNumber b l) :=aM (ug (.number a b l h)) fun n n' hn=>ak (.ptr _ _ ⟨hn,rfl,rfl⟩)
theorem GB.below(hR:GB P R){a b:Nat}(h:R a b):(a<P.globals.size)=(b<P.globals.size):=by
 rw[eq_iff_iff];exact⟨fun ha=>by rw[hR.g1 _ ha _ h];exact ha,fun hb=>by rw[hR.g2 _ hb _ h];exact hb⟩
theorem yh(hR:GB P R){a b x y:Addr}(h:AR R a b)(k:AR R x y):SR P R L (·=·) (Op.twoPlaces a x) (Op.twoPlaces b y):=by
 unfold Op.twoPlaces;refine bG ?_;have e1:(a.block != x.block)=(b.block != y.block):=by
  show(!(a.block==x.block))=!(b.block==y.block);rw[hR.toPB.beq h.1 k.1]
 have e2:decide (a.block>=P.globals.size)=decide (b.block>=P.globals.size):=by
  have:=hR.below h.1;by_cases hb:b.block<P.globals.size
  .have ha:a.block<P.globals.size:=by rw[this];exact hb
   rw[decide_eq_false (by omega),decide_eq_false (by omega)]
  .have ha:¬ a.block<P.globals.size:=by rw[this];exact hb
   rw[decide_eq_true (by omega),decide_eq_true (by omega)]
 rw[e1,e2];refine aF dJ ?_;exact aJ (kL h) fun _=>aJ (kL k) fun _=>aI _
theorem qz{a b:Addr}(h:AR R a b):SR P R L (·=·) (stringish a) (stringish b):=by
 unfold stringish;refine aJ (nA h) fun c=>?_
 refine aF (aI _) ?_;refine aJ (iB h.1) fun o=>?_
 cases o with
 | none=>exact aI _
 | some x=>exact nA ⟨h.1,rfl,rfl⟩
theorem Lu{a b x y:Addr}(h:AR R a b)(k:AR R x y):SR P R L (·=·) (mayBeOne a x) (mayBeOne b y):=by
 unfold mayBeOne;refine aJ (qz h) fun sa=>?_
 refine aJ (qz k) fun sb=>?_
 dsimp only
 have hn:∀ {a b:Addr},AR R a b->SR P R L (·=·) (do pure ((<- shape a.block) matches some (_,0)):Sem Bool) (do pure ((<- shape b.block) matches some (_,0))):=fun h=>aJ (iB h.1) fun o=>aI _
 exact aJ (hn h) fun x=>aJ (hn k) fun y=>aI _
theorem Ab(hR:PB R){a b x y:Addr}(h:AR R a b)(k:AR R x y):SR P R L (·=·) (sameAddr a x) (sameAddr b y):=by
 unfold sameAddr;rw[hR.beq h.1 k.1,hR.addr h k];refine aF (aI _) ?_;refine aJ (nA h) fun f1=>?_
 refine aJ (nA k) fun f2=>?_
 refine aF dJ ?_;refine aJ (tY h) fun _=>aJ (tY k) fun _=>?_
 refine aJ (Lu h k) fun m=>?_
 exact aF (gP fun _=>aI _) (aI _)
def NA(R:Nat->Nat->Prop)(L:FuncId->Bool)(a b:Addr):Prop:=AR R a b\/(a=b/\L (2*a.block+1000000001)=true)
def OqD(P:Program)(R:Nat->Nat->Prop)(L:FuncId->Bool):Prop:=(∀ a b,R a b->L (2*a+1000000001)=false/\L (2*b+1000000001)=false)/\∀ t:Nat,L (2*t+1000000000)=true->∃ e,P.underlying t=some (.pointer e)
theorem OZ{a:Addr}(h:L (2*a.block+1000000001)=true):SR P R L (·=·) (noView a) (noView a):=by
 unfold noView viewAt;refine aM (C:=fun x y=>x=none/\y=none) ?_ fun x y hxy=>?_
 .refine aM (za h) fun x y hxy=>?_
  obtain⟨rfl,p,rfl⟩:=hxy;exact ak ⟨rfl,rfl⟩
 .obtain⟨rfl,rfl⟩:=hxy;exact aI _
theorem Dr{a b:Addr}(h:NA R L a b):SR P R L (·=·) (noView a) (noView b):=by
 rcases h with h|⟨rfl,h⟩
 .exact tY h
 .exact OZ h
theorem Ce{a b:Addr}(h:NA R L a b):SR P R L (·=·) (frozen a) (frozen b):=by
 rcases h with h|⟨rfl,h⟩
 .exact nA h
 .exact QC (fun x y h=>h.1.trans h.2.symm) (vO rfl h)
theorem u6{a b:Addr}(h:NA R L a b):SR P R L (·=·) (stringish a) (stringish b):=by
 rcases h with h|⟨rfl,h⟩
 .exact qz h
 .unfold stringish;refine aM (vO rfl h) fun x y hxy=>?_
  obtain⟨rfl,rfl⟩:=hxy;refine aM (za h) fun x y hxy=>?_
  obtain⟨rfl,p,rfl⟩:=hxy;exact QC (fun x y h=>h.1.trans h.2.symm) (vO rfl h)
theorem Ih{a b x y:Addr}(h:NA R L a b)(k:NA R L x y):SR P R L (·=·) (mayBeOne a x) (mayBeOne b y):=by
 unfold mayBeOne;refine aJ (u6 h) fun sa=>?_
 refine aJ (u6 k) fun sb=>?_
 dsimp only
 have hn:∀ {a b:Addr},NA R L a b->SR P R L (·=·) (do pure ((<- shape a.block) matches some (_,0)):Sem Bool) (do pure ((<- shape b.block) matches some (_,0))):=fun h=>by
  rcases h with h|⟨rfl,h⟩
  .exact aJ (iB h.1) fun o=>aI _
  .refine aM (za h) fun x y hxy=>?_
   obtain⟨rfl,p,rfl⟩:=hxy;exact aI _
 exact aJ (hn h) fun x=>aJ (hn k) fun y=>aI _
theorem NA.beq(hR:PB R)(hO:∀ a b,R a b->L (2*a+1000000001)=false/\L (2*b+1000000001)=false){a b x y:Addr}(h:NA R L a b)(k:NA R L x y):(a.block==x.block)=(b.block==y.block)/\(a==x)=(b==y):=by
 rcases h with h|⟨rfl,h⟩
 .rcases k with k|⟨rfl,k⟩
  .exact⟨hR.beq h.1 k.1,hR.addr h k⟩
  .have h1:=hO _ _ h.1;have n1:a.block≠x.block:=fun e=>by rw[e,k] at h1;exact absurd h1.1 (by simp)
   have n2:b.block≠x.block:=fun e=>by rw[e,k] at h1;exact absurd h1.2 (by simp)
   have m1:a≠x:=fun e=>n1 (by rw[e])
   have m2:b≠x:=fun e=>n2 (by rw[e])
   exact⟨(beq_eq_false_iff_ne.2 n1).trans (beq_eq_false_iff_ne.2 n2).symm,(beq_eq_false_iff_ne.2 m1).trans (beq_eq_false_iff_ne.2 m2).symm⟩
 .rcases k with k|⟨rfl,k⟩
  .have h1:=hO _ _ k.1;have n1:a.block≠x.block:=fun e=>by rw[<-e,h] at h1;exact absurd h1.1 (by simp)
   have n2:a.block≠y.block:=fun e=>by rw[<-e,h] at h1;exact absurd h1.2 (by simp)
   have m1:a≠x:=fun e=>n1 (by rw[e])
   have m2:a≠y:=fun e=>n2 (by rw[e])
   exact⟨(beq_eq_false_iff_ne.2 n1).trans (beq_eq_false_iff_ne.2 n2).symm,(beq_eq_false_iff_ne.2 m1).trans (beq_eq_false_iff_ne.2 m2).symm⟩
  .exact⟨rfl,rfl⟩
theorem II(hR:PB R)(hO:OqD P R L){a b x y:Addr}(h:NA R L a b)(k:NA R L x y):SR P R L (·=·) (sameAddr a x) (sameAddr b y):=by
 unfold sameAddr;obtain⟨e1,e2⟩:=h.beq hR hO.1 k;rw[e1,e2];refine aF (aI _) ?_;refine aJ (Ce h) fun f1=>?_
 refine aJ (Ce k) fun f2=>?_
 refine aF dJ ?_;refine aJ (Dr h) fun _=>aJ (Dr k) fun _=>?_
 refine aJ (Ih h k) fun m=>?_
 exact aF (gP fun _=>aI _) (aI _)
theorem zi{γ δ:Type}{f g:γ->δ->Sem (ForInStep δ)}(h:∀ a s,SR P R L (·=·) (f a s) (g a s)):∀ (l:List γ)(b:δ),SR P R L (·=·) (forIn l b f:Sem δ) (forIn l b g)
 | [],b=>by rw[qbL,qbL];exact aI _
 | a::l,b=>by
  rw[qbn,qbn];refine aJ (h a b) fun s=>?_
  cases s with
  | done b=>exact aI _
  | yield b=>exact zi h l b
theorem TM{γ δ:Type}{f g:γ->δ->Sem (ForInStep δ)}(h:∀ a s,SR P R L (·=·) (f a s) (g a s))(l:Array γ)(b:δ):SR P R L (·=·) (forIn l b f:Sem δ) (forIn l b g):=by
 rw[<-qbi,<-qbi];exact zi h _ _
theorem BH{γ δ:Type}{f g:γ->δ->Sem (ForInStep δ)}:∀ (l:List γ)(h:∀ a∈l,∀ s,SR P R L (·=·) (f a s) (g a s))(b:δ),SR P R L (·=·) (forIn l b f:Sem δ) (forIn l b g)
 | [],h,b=>by rw[qbL,qbL];exact aI _
 | a::l,h,b=>by
  rw[qbn,qbn];refine aJ (h a (by simp) b) fun s=>?_
  cases s with
  | done b=>exact aI _
  | yield b=>exact BH l (fun x hx=>h x (by simp[hx])) b
theorem Po{γ δ:Type}{f g:γ->δ->Sem (ForInStep δ)}(l:Array γ)(h:∀ a∈l.toList,∀ s,SR P R L (·=·) (f a s) (g a s))(b:δ):SR P R L (·=·) (forIn l b f:Sem δ) (forIn l b g):=by
 rw[<-qbi,<-qbi];exact BH _ h _
theorem Gd{δ:Type}{f g:Nat->δ->Sem (ForInStep δ)}(h:∀ a s,SR P R L (·=·) (f a s) (g a s))(n:Nat)(b:δ):SR P R L (·=·) (forIn [0:n] b f:Sem δ) (forIn [0:n] b g):=by
 rw[qbw,qbw];exact zi h _ _
theorem ql{t:TypeId}:SR P R L (·=·) (typeStr t) (typeStr t):=by
 unfold typeStr;exact fJ fun i _=>aF (aW _ _) (aI _)
def I4(P:Program):Nat->TypeId->Bool
 | 0,_=>false
 | k+1,t=>match P.underlying t with
  | some (.interface _)=>false
  | some (.struct fs)=>fs.toList.all fun f=>I4 P k f.type
  | some (.array _ e)=>I4 P k e
  | _=>true
def EqC(P:Program)(t:TypeId)(x y:Value):Prop:=(∃ k,I4 P k t=true)\/x=.nilIface\/y=.nilIface
def EqR(P:Program)(R:Nat->Nat->Prop)(L:FuncId->Bool)(t:TypeId)(x y:Value):Prop:=EqC P t x y\/OqD P R L
def NV(R:Nat->Nat->Prop)(L:FuncId->Bool)(v w:Value):Prop:=VR R L v w\/∃ a,v=.pointer (some a)/\w=.pointer (some a)/\L (2*a.block+1000000001)=true
theorem zh(hR:GB P R)(hO:OqD P R L)(d:Nat){t:TypeId}(ht:L (2*t+1000000000)=true){x x' y y':Value}(hx:NV R L x x')(hy:NV R L y y'):SR P R L (·=·) (Op.equalIn d t x y) (Op.equalIn d t x' y'):=by
 cases d with
 | zero=>exact aW _ _
 | succ d =>
  unfold Op.equalIn;refine aP fun ds hds=>?_
  obtain⟨e,he⟩:=hO.2 t ht;rw[hds] at he
  cases he
  have two:∀ {a b p q:Addr},NA R L a b->NA R L p q->SR P R L (·=·) (do if (<- sizeOf e)≠0 then sameAddr a p else if a==p then pure true else do pure ((<- choose .zeroSizeEq)=1):Sem Bool) (do if (<- sizeOf e)≠0 then sameAddr b q else if b==q then pure true else do pure ((<- choose .zeroSizeEq)=1)):=fun h k=>by
   refine bL fun n=>?_
   rw[(h.beq hR.toPB hO.1 k).2];exact aF (II hR.toPB hO h k) (aF (aI _) (gP fun _=>aI _))
  rcases hx with hx|⟨a,rfl,rfl,ha⟩
  .cases hx with
   | gV =>
    rcases hy with hy|⟨b,rfl,rfl,hb⟩
    .cases hy with
     | gV=>exact aI _
     | ptr a b h=>exact aI _
     | _=>exact aj _ _
    .exact aI _
   | ptr a a' h =>
    rcases hy with hy|⟨b,rfl,rfl,hb⟩
    .cases hy with
     | gV=>exact aI _
     | ptr b b' h'=>exact two (.inl h) (.inl h')
     | _=>exact aj _ _
    .exact two (.inl h) (.inr ⟨rfl,hb⟩)
   | _=>exact aj _ _
  .rcases hy with hy|⟨b,rfl,rfl,hb⟩
   .cases hy with
    | gV=>exact aI _
    | ptr b b' h'=>exact two (.inr ⟨rfl,ha⟩) (.inl h')
    | _=>exact aj _ _
   .exact two (.inr ⟨rfl,ha⟩) (.inr ⟨rfl,hb⟩)
theorem qK(hR:GB P R):∀ (d:Nat)(t:TypeId){x y x' y':Value},EqR P R L t x y->VR R L x x'->VR R L y y'->SR P R L (·=·) (Op.equalIn d t x y) (Op.equalIn d t x' y')
 | 0,t,x,y,x',y',_,_,_=>aW _ _
 | d+1,t,x,y,x',y',hc,hx,hy=>by
  have ih:=@qK hR d;unfold Op.equalIn;refine aP fun ds hds=>?_
  cases ds with
  | bool =>
   cases hx with
   | bool a=>cases hy with
    | bool b=>exact aI _
    | _=>exact aj _ _
   | _=>exact aj _ _
  | int k =>
   cases hx with
   | int k1 a=>cases hy with
    | int k2 b=>exact aF (aI _) (aj _ _)
    | ptr b b' h=>cases a with
     | ofNat n=>cases n with
      | zero=>exact aI _
      | succ n=>exact aW _ _
     | negSucc n=>exact aW _ _
    | gV=>cases a with
     | ofNat n=>cases n with
      | zero=>exact aW _ _
      | succ n=>exact aW _ _
     | negSucc n=>exact aW _ _
    | _=>exact aj _ _
   | ptr a a' h=>cases hy with
    | int k2 b=>cases b with
     | ofNat n=>cases n with
      | zero=>exact aI _
      | succ n=>exact aW _ _
     | negSucc n=>exact aW _ _
    | ptr b b' h' =>
     refine aM (aV h) fun p q hpq=>?_
     refine aM (aV h') fun p' q' adj=>?_
     dsimp only
     refine bG ?_;rw[hR.toPB.beq hpq.1.1 adj.1.1,hR.toPB.addr hpq.1 adj.1];have e:=hR.below hpq.1.1;have e2:decide (p.1.block<P.globals.size)=decide (q.1.block<P.globals.size):=by
      rw[decide_eq_decide,e]
     rw[e2];refine aF ?_ ?_
     .exact aJ (kL hpq.1) fun _=>aJ (kL adj.1) fun _=>aI _
     .refine fJ fun i hi=>?_
      split
      .exact aF (aI _) (aW _ _)
      .exact aW _ _
    | _=>exact aW _ _
   | gV=>exact aW _ _
   | _=>cases hy <;> first|exact aj _ _|exact aW _ _
  | float k=>cases hx <;> cases hy <;> exact aj _ _
  | complex k=>cases hx <;> cases hy <;> exact aj _ _
  | string =>
   cases hx with
   | string a=>cases hy with
    | string b=>exact aI _
    | _=>exact aj _ _
   | _=>exact aj _ _
  | pointer elem =>
   cases hx with
   | gV=>cases hy with
    | gV=>exact aI _
    | ptr a b h=>exact aI _
    | _=>exact aj _ _
   | ptr a a' h=>cases hy with
    | gV=>exact aI _
    | ptr b b' h' =>
     dsimp only
     refine bL fun n=>?_
     rw[hR.toPB.addr h h'];exact aF (Ab hR.toPB h h') (aF (aI _) (gP fun _=>aI _))
    | _=>exact aj _ _
   | _=>exact aj _ _
  | unsafePointer =>
   cases hx with
   | gV=>cases hy with
    | gV=>exact aI _
    | ptr a b h=>exact aI _
    | _=>exact aj _ _
   | ptr a a' h=>cases hy with
    | gV=>exact aI _
    | ptr b b' h'=>exact Ab hR.toPB h h'
    | _=>exact aj _ _
   | _=>exact aj _ _
  | chan dir e =>
   cases hx with
   | chan a=>cases hy with
    | chan b=>exact aI _
    | _=>exact aj _ _
   | _=>exact aj _ _
  | interface ms =>
   have no:∀ {t1 t2:TypeId}{v1 v2:Value},EqR P R L t (.iface t1 v1) (.iface t2 v2)->OqD P R L:=by
    rintro t1 t2 v1 v2 ((⟨k,hk⟩|h|h)|h)
    .cases k with
     | zero=>cases hk
     | succ k=>unfold I4 at hk;rw[hds] at hk;cases hk
    .cases h
    .cases h
    .exact h
   cases hx with
   | nilIface=>cases hy with
    | nilIface=>exact aI _
    | iface t v w h=>exact aI _
    | tJ t a ht ha=>exact aI _
    | _=>exact aj _ _
   | iface t1 v w h=>cases hy with
    | nilIface=>exact aI _
    | iface t2 v2 w2 h2 =>
     dsimp only
     refine aF (aI _) ?_;refine fJ fun i hi=>?_
     refine aF ?_ (ih _ (.inr (no hc)) h h2);refine bG ?_;refine bG ?_;refine aF dJ ?_;exact aJ ql fun _=>jK rfl
    | tJ t2 a ht ha =>
     dsimp only
     by_cases e:t1=t2
     .subst e;refine aF (aI _) ?_;refine fJ fun i hi=>?_
      refine aF ?_ (zh hR (no hc) _ ht (.inl h) (.inr ⟨a,rfl,rfl,ha⟩));refine bG ?_;refine bG ?_;refine aF dJ ?_;exact aJ ql fun _=>jK rfl
     .rw[if_pos e,if_pos e];exact aI _
    | _=>exact aj _ _
   | tJ t1 a1 ht1 ha1=>cases hy with
    | nilIface=>exact aI _
    | iface t2 v2 w2 h2 =>
     dsimp only
     refine aF (aI _) ?_;refine fJ fun i hi=>?_
     refine aF ?_ (zh hR (no hc) _ ht1 (.inr ⟨a1,rfl,rfl,ha1⟩) (.inl h2));refine bG ?_;refine bG ?_;refine aF dJ ?_;exact aJ ql fun _=>jK rfl
    | tJ t2 a ht ha =>
     dsimp only
     refine aF (aI _) ?_;refine fJ fun i hi=>?_
     refine aF ?_ (zh hR (no hc) _ ht1 (.inr ⟨a1,rfl,rfl,ha1⟩) (.inr ⟨a,rfl,rfl,ha⟩));refine bG ?_;refine bG ?_;refine aF dJ ?_;exact aJ ql fun _=>jK rfl
    | _=>exact aj _ _
   | _=>exact aj _ _
  | struct fs =>
   cases hx with
   | agg a a' h1 h2=>cases hy with
    | agg b b' h3 h4 =>
     dsimp only
     refine bG ?_;refine aF dJ ?_;have ha:AV R L a a':=⟨h1,h2⟩;have hb:AV R L b b':=⟨h3,h4⟩;have hf:∀ f∈fs.toList,(∃ k,I4 P k f.type=true)\/OqD P R L:=by
      rcases hc with(⟨k,hk⟩|h|h)|h
      .cases k with
       | zero=>cases hk
       | succ k =>
        unfold I4 at hk;rw[hds] at hk;exact fun f hf=>.inl ⟨k,Ej.1 hk f hf⟩
      .cases h
      .cases h
      .exact fun _ _=>.inr h
     refine aJ (Po _ (fun f hfm s=>?_) _) fun r=>?_
     .exact aF (aM (kU ha _) fun x x' hx=>aM (kU hb _) fun y y' hy=>aJ (ih _ ((hf f hfm).imp .inl id) hx hy) fun c=>aF (aI _) (aI _)) (aI _)
     .obtain⟨r,u⟩:=r
      cases r <;> exact aI _
    | _=>exact aj _ _
   | _=>exact aj _ _
  | array n e =>
   cases hx with
   | agg a a' h1 h2=>cases hy with
    | agg b b' h3 h4 =>
     dsimp only
     refine bL fun n=>?_
     have ha:AV R L a a':=⟨h1,h2⟩;have hb:AV R L b b':=⟨h3,h4⟩;have hf:(∃ k,I4 P k e=true)\/OqD P R L:=by
      rcases hc with(⟨k,hk⟩|h|h)|h
      .cases k with
       | zero=>cases hk
       | succ k =>
        unfold I4 at hk;rw[hds] at hk;exact .inl ⟨k,hk⟩
      .cases h
      .cases h
      .exact .inr h
     refine aJ (Gd (fun f s=>?_) _ _) fun r=>?_
     .exact aM (kU ha _) fun x x' hx=>aM (kU hb _) fun y y' hy=>aJ (ih _ (hf.imp .inl id) hx hy) fun c=>aF (aI _) (aI _)
     .obtain⟨r,u⟩:=r
      cases r <;> exact aI _
    | _=>exact aj _ _
   | _=>exact aj _ _
  | slice e =>
   cases hx with
   | iq n c=>cases hy with
    | iq m k=>exact aI _
    | slice a b m k h=>exact aI _
    | _=>exact aj _ _
   | slice a b n c h=>cases hy with
    | iq m k=>exact aI _
    | _=>exact aj _ _
   | _=>exact aj _ _
  | map k e =>
   cases hx with
   | fV=>cases hy with
    | fV=>exact aI _
    | map r s h=>exact aI _
    | _=>exact aj _ _
   | map r s h=>cases hy with
    | fV=>exact aI _
    | _=>exact aj _ _
   | _=>exact aj _ _
  | func a b c =>
   cases hx with
   | nilFunc=>cases hy with
    | nilFunc=>exact aI _
    | func=>exact aI _
    | _=>exact aj _ _
   | func=>cases hy with
    | nilFunc=>exact aI _
    | _=>exact aj _ _
   | _=>exact aj _ _
  | _=>exact aj _ _
theorem qJ:∀ (d:Nat)(t:TypeId){x y x' y':Value},VR R L x x'->VR R L y y'->SR P R L (·=·) (Op.eqGuardIn d t x y) (Op.eqGuardIn d t x' y')
 | 0,t,x,y,x',y',_,_=>aW _ _
 | d+1,t,x,y,x',y',hx,hy=>by
  have ih:=@qJ d;unfold Op.eqGuardIn;refine aP fun ds hds=>?_
  cases ds with
  | interface ms =>
   cases hx with
   | nilIface=>cases hy <;> exact aI _
   | _=>cases hy <;> exact aI _
  | struct fs =>
   cases hx with
   | agg a a' h1 h2=>cases hy with
    | agg b b' h3 h4 =>
     dsimp only
     have ha:AV R L a a':=⟨h1,h2⟩;have hb:AV R L b b':=⟨h3,h4⟩;refine aJ (TM (fun f s=>?_) _ _) fun r=>?_
     .exact aF (aM (kU ha _) fun x x' hx=>aM (kU hb _) fun y y' hy=>aJ (ih _ hx hy) fun c=>aF (aI _) (aI _)) (aI _)
     .obtain⟨r,u⟩:=r
      cases r <;> exact aI _
    | _=>exact aI _
   | _=>cases hy <;> exact aI _
  | array n e =>
   cases hx with
   | agg a a' h1 h2=>cases hy with
    | agg b b' h3 h4 =>
     dsimp only
     have ha:AV R L a a':=⟨h1,h2⟩;have hb:AV R L b b':=⟨h3,h4⟩;refine bL fun n=>?_
     refine aJ (Gd (fun f s=>?_) _ _) fun r=>?_
     .exact aM (kU ha _) fun x x' hx=>aM (kU hb _) fun y y' hy=>aJ (ih _ hx hy) fun c=>aF (aI _) (aI _)
     .obtain⟨r,u⟩:=r
      cases r <;> exact aI _
    | _=>exact aI _
   | _=>cases hy <;> exact aI _
  | _=>exact aI _
theorem PW(o:BinOp)(t:TypeId)(x y:Operand){a b a' b':Value}(ha:VR R L a a')(hb:VR R L b b'):SR P R L (·=·) (eqGuard o t x y a b) (eqGuard o t x y a' b'):=by
 unfold eqGuard;refine aF (aI _) ?_;have hr:SR P R L (·=·) (do if <-Op.eqGuardIn Op.maxDepth t a b then unsupported (.noEntry "binop/eql: two nil values of an interface type with methods, neither of them the literal nil"):Sem Unit) (do if <-Op.eqGuardIn Op.maxDepth t a' b' then unsupported (.noEntry "binop/eql: two nil values of an interface type with methods, neither of them the literal nil")) :=aJ (qJ _ _ ha hb) fun c=>aF (aW _ _) (aI _)
 have hg:SR P R L (·=·) (do if <-Op.eqGuardIn Op.maxDepth t a b then unsupported (.noEntry "binop/eql: two nil values of an interface type with methods, in a part of a struct or an array"):Sem Unit) (do if <-Op.eqGuardIn Op.maxDepth t a' b' then unsupported (.noEntry "binop/eql: two nil values of an interface type with methods, in a part of a struct or an array")) :=aJ (qJ _ _ ha hb) fun c=>aF (aW _ _) (aI _)
 cases ha with
 | nilIface=>cases hb with
  | nilIface=>exact aF (aI _) hr
  | _=>exact aI _
 | agg x x' h1 h2=>cases hb with
  | agg y y' h3 h4 =>
   refine bG ?_;refine bG ?_;exact aF (aI _) hg
  | _=>exact aI _
 | _=>cases hb <;> exact aI _
theorem bB(ts:Array TypeId)(t:TypeId){x x' y y':Value}(hx:VR R L x x')(hy:VR R L y y'):SR P R L (VR R L) (Builtin.unsafeAdd_ ts t #[x,y]) (Builtin.unsafeAdd_ ts t #[x',y']):=by
 unfold Builtin.unsafeAdd_
 cases hx with
 | gV =>
  refine aJ (lu hy) fun n=>?_
  refine aF (aW _ _) ?_;exact aF dJ (aW _ _)
 | ptr a b h =>
  refine aJ (lu hy) fun n=>?_
  refine aF ?_ ?_
  .refine aJ (GJ h.1) fun o=>?_
   exact aF dJ (ak (.ptr _ _ h))
  .refine aF dJ ?_;refine aJ (iB h.1) fun o=>?_
   cases o with
   | none=>exact aW _ _
   | some x =>
    obtain⟨e,c⟩:=x;refine bG ?_;rw[h.2.1];split
    .exact ak (.ptr _ _ ⟨h.1,rfl,h.2.2⟩)
    .exact aW _ _
 | _=>exact aj _ _
theorem fP(t:TypeId){x x' y y':Value}(hx:VR R L x x')(hy:VR R L y y'):SR P R L (VR R L) (movedNumber t x y) (movedNumber t x' y'):=by
 unfold movedNumber;refine aP fun d hd=>?_
 refine aF dJ ?_
 cases hx with
 | ptr a b h =>
  dsimp only
  refine aM (aV h) fun p q hpq=>?_
  obtain⟨p1,p2⟩:=p;obtain⟨q1,q2⟩:=q;obtain⟨hp,rfl⟩:AR R p1 q1/\p2=q2:=hpq;dsimp only
  refine aM (bB _ _ (.ptr _ _ hp) hy) fun v w hv=>?_
  cases hv with
  | ptr c d k=>exact KH k _
  | gV=>exact ak .gV
  | bool b=>exact ak (.bool b)
  | int k n=>exact ak (.int k n)
  | string s=>exact ak (.string s)
  | iq n c=>exact ak (.iq n c)
  | slice a b n c h=>exact ak (.slice a b n c h)
  | fV=>exact ak .fV
  | map r s h=>exact ak (.map r s h)
  | chan r=>exact ak (.chan r)
  | func f hf x c y d hx hxv hc hcv=>exact ak (.func f hf x c y d hx hxv hc hcv)
  | nilFunc=>exact ak .nilFunc
  | iface t v w h=>exact ak (.iface t v w h)
  | tJ t a ht ha=>exact ak (.tJ t a ht ha)
  | nilIface=>exact ak .nilIface
  | agg x y hx hv=>exact ak (.agg x y hx hv)
  | tuple x y hx hv=>exact ak (.tuple x y hx hv)
 | gV=>exact bB _ _ .gV hy
 | bool b=>exact bB _ _ (.bool b) hy
 | int k n=>exact bB _ _ (.int k n) hy
 | string s=>exact bB _ _ (.string s) hy
 | iq n c=>exact bB _ _ (.iq n c) hy
 | slice a b n c h=>exact bB _ _ (.slice a b n c h) hy
 | fV=>exact bB _ _ .fV hy
 | map r s h=>exact bB _ _ (.map r s h) hy
 | chan r=>exact bB _ _ (.chan r) hy
 | func f hf x c y d hx hxv hc hcv=>exact bB _ _ (.func f hf x c y d hx hxv hc hcv) hy
 | nilFunc=>exact bB _ _ .nilFunc hy
 | iface t v w h=>exact bB _ _ (.iface t v w h) hy
 | tJ t a ht ha=>exact bB _ _ (.tJ t a ht ha) hy
 | nilIface=>exact bB _ _ .nilIface hy
 | agg x y' hx hv=>exact bB _ _ (.agg x y' hx hv) hy
 | tuple x y' hx hv=>exact bB _ _ (.tuple x y' hx hv) hy
theorem rA(t:TypeId){x x' y y':Value}(hx:VR R L x x')(hy:VR R L y y'):SR P R L (VR R L) (movedPointer t x y) (movedPointer t x' y'):=by
 unfold movedPointer;have h2:=bB (P:=P) #[] t hx hy
 cases hx with
 | ptr a b h =>
  refine aM (Au h.1) fun p q hpq=>?_
  rcases hpq with⟨rfl,rfl⟩|⟨c,d,l,rfl,rfl,_⟩
  .exact h2
  .exact dJ
 | _=>exact h2
theorem Ph(hR:GB P R)(k:IntKind){a b x y:Addr}(h:AR R a b)(h':AR R x y):SR P R L (VR R L) (Op.addrSub k a x) (Op.addrSub k b y):=by
 unfold Op.addrSub;refine aJ (yh hR h h') fun p=>?_
 exact ak (.int _ _)
theorem qC(hR:GB P R)(o:BinOp){a b x y:Addr}(h:AR R a b)(h':AR R x y):SR P R L (VR R L) (Op.addrCmp o a x) (Op.addrCmp o b y):=by
 unfold Op.addrCmp;refine aJ (yh hR h h') fun p=>?_
 cases o <;> first|exact ak (.bool _)|exact aW _ _
theorem vZ(k:IntKind){a b:Addr}(h:AR R a b)(n:Int):SR P R L (VR R L) (Op.addrMod k a n) (Op.addrMod k b n):=by
 unfold Op.addrMod;refine aJ (iB h.1) fun o=>?_
 cases o with
 | none=>exact aW _ _
 | some x =>
  obtain⟨e,c⟩:=x;refine fJ fun i hi=>?_
  exact aF dJ (aJ (kL h) fun _=>ak (.int _ _))
theorem EP(hR:GB P R)(t:TypeId){x y x' y':Value}(hc:EqR P R L t x y)(hx:VR R L x x')(hy:VR R L y y'):SR P R L (VR R L) (do pure (.bool (<- Op.equal t x y))) (do pure (.bool (<- Op.equal t x' y'))) :=aJ (qK hR _ _ hc hx hy) fun _=>ak (.bool _)
theorem Er(hR:GB P R)(t:TypeId){x y x' y':Value}(hc:EqR P R L t x y)(hx:VR R L x x')(hy:VR R L y y'):SR P R L (VR R L) (do pure (.bool (!(<- Op.equal t x y)))) (do pure (.bool (!(<- Op.equal t x' y')))) :=aJ (qK hR _ _ hc hx hy) fun _=>ak (.bool _)
end
end Sr
end
section
open Go.Conc
namespace Sr
section
variable {P:Program}{R:Nat->Nat->Prop}{L:FuncId->Bool}{α β:Type}{C:α->α->Prop}{D:β->β->Prop}
def dead{α:Type}:Sem α->Prop
 | .halt h=>Bd h
 | _=>False
theorem eU{s t:Sem α}(h:dead s):SR P R L C s t:=by
 cases s with
 | halt x=>cases x with
  | panic v=>exact h.elim
  | _=>exact h
 | _=>exact h.elim
theorem DW(o:BinOp)(t:TypeId)(k k':IntKind)(a b:Int):SR P R L (VR R L) (binOp o t (.int k a) (.int k' b)) (binOp o t (.int k a) (.int k' b)):=by
 cases o with
 | shl=>exact JU .shl k a k' b
 | shr=>exact JU .shr k a k' b
 | _=>first
  | exact aF (aj _ _) (Ag _ _ _ _)
  | exact aF (aj _ _) (TI _ _ _ _)
  | exact aF (aj _ _) (Co _ _ _ _)
  | exact aF (aj _ _) (RO _ _ _)
theorem aaZ(o:BinOp)(t:TypeId)(a b:ByteArray):binOp o t (.string a) (.string b)=Op.stringOp o a b:=by cases o <;> rfl
theorem Ei(o:BinOp)(t:TypeId)(a b:ByteArray):SR P R L (VR R L) (binOp o t (.string a) (.string b)) (binOp o t (.string a) (.string b)):=by
 rw[aaZ];exact sP _ _ _
def other:Value->Bool
 | .int ..|.string _|.pointer _|.float ..|.complex ..=>false
 | _=>true
theorem NT(o:BinOp)(t:TypeId)(x y:Value)(ho:o≠.eql)(ho':o≠.neq)(hx:other x=true):dead (binOp o t x y):=by
 cases x <;> first|(cases hx;done)|(cases o <;> first|exact absurd rfl ho|exact absurd rfl ho'|(cases y <;> exact trivial))
theorem VG(o:BinOp)(t:TypeId)(k:IntKind)(n:Int)(y:Value)(ho:o≠.eql)(ho':o≠.neq)(hy:other y=true\/∃ s,y=.string s):dead (binOp o t (.int k n) y):=by
 rcases hy with hy|⟨s,rfl⟩
 .cases y <;> first|(cases hy;done)|(cases o <;> first|exact absurd rfl ho|exact absurd rfl ho'|exact trivial)
 .cases o <;> first|exact absurd rfl ho|exact absurd rfl ho'|exact trivial
theorem Vm(o:BinOp)(t:TypeId)(s:ByteArray)(y:Value)(ho:o≠.eql)(ho':o≠.neq)(hy:∀ u,y≠.string u):dead (binOp o t (.string s) y):=by
 cases y <;> first| exact absurd rfl (hy _)|(cases o <;> first|exact absurd rfl ho|exact absurd rfl ho'|exact trivial)
theorem Z0(hR:GB P R)(o:BinOp)(t:TypeId){a b:Addr}(h:AR R a b){y y':Value}(hc:o=.eql\/o=.neq->EqR P R L t (.pointer (some a)) y)(hy:VR R L y y'):SR P R L (VR R L) (binOp o t (.pointer (some a)) y) (binOp o t (.pointer (some b)) y'):=by
 have he:=fun hc=>EP hR t hc (.ptr a b h) hy
 have hn:=fun hc=>Er hR t hc (.ptr a b h) hy
 cases o with
 | eql=>cases hy <;> exact he (hc (.inl rfl))
 | neq=>cases hy <;> exact hn (hc (.inr rfl))
 | add =>
  have hmn:=fP (P:=P) t (.ptr a b h) hy;have hmp:=rA (P:=P) t (.ptr a b h) hy
  cases hy with
  | int k n=>exact aP fun d _=>aF hmp hmn
  | _=>exact eU trivial
 | sub=>cases hy with
  | int k n=>exact fP _ (.ptr _ _ h) (.int _ _)
  | ptr x x' h'=>exact aM (aV h) fun p q hp=>aM (aV h') fun p' q' hp'=>Ph hR _ hp.1 hp'.1
  | _=>exact eU trivial
 | lss=>cases hy with
  | ptr x x' h'=>exact aM (aV h) fun p q hp=>aM (aV h') fun p' q' hp'=>qC hR _ hp.1 hp'.1
  | _=>exact eU trivial
 | leq=>cases hy with
  | ptr x x' h'=>exact aM (aV h) fun p q hp=>aM (aV h') fun p' q' hp'=>qC hR _ hp.1 hp'.1
  | _=>exact eU trivial
 | gtr=>cases hy with
  | ptr x x' h'=>exact aM (aV h) fun p q hp=>aM (aV h') fun p' q' hp'=>qC hR _ hp.1 hp'.1
  | _=>exact eU trivial
 | geq=>cases hy with
  | ptr x x' h'=>exact aM (aV h) fun p q hp=>aM (aV h') fun p' q' hp'=>qC hR _ hp.1 hp'.1
  | _=>exact eU trivial
 | rem=>cases hy with
  | int k n=>exact aM (aV h) fun p q hp=>vZ _ hp.1 _
  | _=>exact eU trivial
 | and=>cases hy with
  | int k n=>exact aM (aV h) fun p q hp=>vZ _ hp.1 _
  | _=>exact eU trivial
 | _=>cases hy <;> exact eU trivial
theorem ZM(hR:GB P R)(o:BinOp)(t:TypeId)(k:IntKind)(n:Int){y y':Value}(hc:o=.eql\/o=.neq->EqR P R L t (.int k n) y)(hy:VR R L y y'):SR P R L (VR R L) (binOp o t (.int k n) y) (binOp o t (.int k n) y'):=by
 by_cases ho:o=.eql
 .subst ho;have he:=EP hR t (hc (.inl rfl)) (.int k n) hy
  cases hy <;> first|exact DW _ _ _ _ _ _|exact he
 by_cases ho':o=.neq
 .subst ho';have he:=Er hR t (hc (.inr rfl)) (.int k n) hy
  cases hy <;> first|exact DW _ _ _ _ _ _|exact he
 have hd:=VG o t k n y ho ho'
 cases hy with
 | int k' m=>exact DW _ _ _ _ _ _
 | ptr a b h =>
  cases o with
  | eql=>exact absurd rfl ho
  | neq=>exact absurd rfl ho'
  | add=>exact fP _ (.ptr _ _ h) (.int _ _)
  | and=>exact aM (aV h) fun p q hp=>vZ _ hp.1 _
  | _=>exact eU trivial
 | gV =>
  cases o with
  | eql=>exact absurd rfl ho
  | neq=>exact absurd rfl ho'
  | add=>exact fP _ .gV (.int _ _)
  | _=>exact eU trivial
 | string s=>exact eU (hd (.inr ⟨_,rfl⟩))
 | _=>exact eU (hd (.inl rfl))
theorem eG(hR:GB P R)(o:BinOp)(t:TypeId){x x':Value}(ho:other x=true)(hx:VR R L x x'){y y':Value}(hc:o=.eql\/o=.neq->EqR P R L t x y)(hy:VR R L y y'):SR P R L (VR R L) (binOp o t x y) (binOp o t x' y'):=by
 by_cases h1:o=.eql
 .subst h1;have he:=EP hR t (hc (.inl rfl)) hx hy
  cases hx <;> first|(cases ho;done)|(cases hy <;> exact he)
 by_cases h2:o=.neq
 .subst h2;have he:=Er hR t (hc (.inr rfl)) hx hy
  cases hx <;> first|(cases ho;done)|(cases hy <;> exact he)
 exact eU (NT o t x y h1 h2 ho)
theorem Y8(hR:GB P R)(o:BinOp)(t:TypeId){y y':Value}(hc:o=.eql\/o=.neq->EqR P R L t (.pointer none) y)(hy:VR R L y y'):SR P R L (VR R L) (binOp o t (.pointer none) y) (binOp o t (.pointer none) y'):=by
 have he:=fun hc=>EP hR t hc .gV hy
 have hn:=fun hc=>Er hR t hc .gV hy
 cases o with
 | eql=>cases hy <;> exact he (hc (.inl rfl))
 | neq=>cases hy <;> exact hn (hc (.inr rfl))
 | add =>
  have hmn:=fP (P:=P) t .gV hy;have hmp:=rA (P:=P) t .gV hy
  cases hy with
  | int k n=>exact aP fun d _=>aF hmp hmn
  | _=>exact eU trivial
 | sub=>cases hy with
  | int k n=>exact fP _ .gV (.int _ _)
  | _=>exact eU trivial
 | _=>cases hy <;> exact eU trivial
theorem XM(hR:GB P R)(o:BinOp)(t:TypeId){x y x' y':Value}(hc:o=.eql\/o=.neq->EqR P R L t x y)(hx:VR R L x x')(hy:VR R L y y'):SR P R L (VR R L) (binOp o t x y) (binOp o t x' y'):=by
 cases hx with
 | int k n=>exact ZM hR o t k n hc hy
 | ptr a b h=>exact Z0 hR o t h hc hy
 | gV=>exact Y8 hR o t hc hy
 | string s =>
  by_cases ho:o=.eql
  .subst ho;have he:=EP hR t (hc (.inl rfl)) (.string s) hy
   cases hy <;> first|exact Ei _ _ _ _|exact he
  by_cases ho':o=.neq
  .subst ho';have he:=Er hR t (hc (.inr rfl)) (.string s) hy
   cases hy <;> first|exact Ei _ _ _ _|exact he
  have hd:=Vm o t s y ho ho'
  cases hy with
  | string s'=>exact Ei _ _ _ _
  | _=>exact eU (hd (by intro u e;cases e))
 | bool b=>exact eG hR o t rfl (.bool b) hc hy
 | iq n c=>exact eG hR o t rfl (.iq n c) hc hy
 | slice a b n c h=>exact eG hR o t rfl (.slice a b n c h) hc hy
 | fV=>exact eG hR o t rfl .fV hc hy
 | map r s h=>exact eG hR o t rfl (.map r s h) hc hy
 | chan r=>exact eG hR o t rfl (.chan r) hc hy
 | func f hf x c y d hx hxv h1 h2=>exact eG hR o t rfl (.func f hf x c y d hx hxv h1 h2) hc hy
 | nilFunc=>exact eG hR o t rfl .nilFunc hc hy
 | iface t2 v w h=>exact eG hR o t rfl (.iface t2 v w h) hc hy
 | tJ t2 a ht ha=>exact eG hR o t rfl (.tJ t2 a ht ha) hc hy
 | nilIface=>exact eG hR o t rfl .nilIface hc hy
 | agg x y hx hv=>exact eG hR o t rfl (.agg x y hx hv) hc hy
 | tuple x y hx hv=>exact eG hR o t rfl (.tuple x y hx hv) hc hy
theorem p9{a b:Addr}(h:AR R a b):SR P R L (·=·) (markStringish a) (markStringish b):=by
 unfold markStringish;refine aJ (iB h.1) fun o=>?_
 cases o with
 | none=>exact aI _
 | some x=>exact Gs (a:={block:=a.block,off:=x.2}) (b:={block:=b.block,off:=x.2}) ⟨h.1,rfl,rfl⟩ _
theorem pX(e:TypeId)(s:ByteArray):SR P R L (VR R L) (Conv.stringToBytes e s) (Conv.stringToBytes e s):=by
 unfold Conv.stringToBytes;refine gP fun c=>?_
 refine aM (pG (AV.app (AV.abG _ fun a=>.int _ _) (AV.abx _ (.int _ _)))) fun a b hab=>?_
 exact aJ (p9 hab) fun _=>ak (.slice _ _ _ _ hab)
theorem Gm{δ:Type}{f g:Value->δ->Sem (ForInStep δ)}(h:∀ a b s,VR R L a b->SR P R L (·=·) (f a s) (g b s)):∀ {x y:List Value},LV R L x y->∀ (b:δ),SR P R L (·=·) (forIn x b f:Sem δ) (forIn y b g)
 | _,_,.nil,b=>by rw[qbL,qbL];exact aI _
 | _,_,.cons hv k,b=>by
  rw[qbn,qbn];refine aJ (h _ _ b hv) fun s=>?_
  cases s with
  | done b=>exact aI _
  | yield b=>exact Gm h k b
theorem Nl{δ:Type}{f g:Value->δ->Sem (ForInStep δ)}(h:∀ a b s,VR R L a b->SR P R L (·=·) (f a s) (g b s)){x y:Array Value}(hx:AV R L x y)(b:δ):SR P R L (·=·) (forIn x b f:Sem δ) (forIn y b g):=by
 rw[<-qbi,<-qbi];exact Gm h hx.list _
theorem yQ{v w:Value}(h:VR R L v w):SR P R L (VR R L) (Conv.bytesToString v) (Conv.bytesToString w):=by
 unfold Conv.bytesToString
 cases h with
 | iq n c=>exact ak (.string _)
 | slice a b n c hab =>
  dsimp only
  refine aM (qw hab n) fun x y hx=>?_
  refine aJ (Nl (fun a b s hv=>?_) hx _) fun s=>ak (.string _)
  cases hv with
  | int k m=>cases k <;> first|exact aj _ _|exact aI _
  | _=>exact aj _ _
 | _=>exact aj _ _
def acz(P:Program)(s d:TypeId):Bool:=match P.underlying s,P.underlying d with
 | some (.int _),some (.int _)=>true
 | some (.int _),some .string=>true
 | some .string,some .string=>true
 | some .string,some (.slice e)=>match P.underlying e with|some (.int .u8)=>true|_=>false
 | some (.slice e),some .string=>match P.underlying e with|some (.int .u8)=>true|_=>false
 | some (.slice _),some (.slice e)=>match P.underlying e with|some (.int .u8)=>true|_=>false
 | _,_=>false
theorem OG{s d:TypeId}(hc:acz P s d=true){v w:Value}(h:VR R L v w):SR P R L (VR R L) (convert s d v) (convert s d w):=by
 unfold convert;refine aP fun ds hs=>?_
 refine aP fun dd hd=>?_
 unfold acz at hc;rw[hs,hd] at hc;split at hc
 .rename_i e1 e2
  cases e1;cases e2
  cases h with
  | int k n=>exact ak (.int _ _)
  | ptr a b h=>exact aW _ _
  | _=>exact aW _ _
 .rename_i e1 e2
  cases e1;cases e2
  cases h with
  | int k n=>exact ak (.string _)
  | string s=>exact ak (.string _)
  | ptr a b h=>exact aW _ _
  | _=>exact aW _ _
 .rename_i e1 e2
  cases e1;cases e2
  cases h with
  | int k n=>exact ak (.string _)
  | string s=>exact ak (.string _)
  | _=>exact aW _ _
 .rename_i e1 e2
  cases e1;cases e2
  cases h with
  | string s =>
   refine aP fun de he=>?_
   rw[he] at hc
   cases de with
   | int k=>cases k <;> first|(cases hc;done)|exact pX _ _
   | _=>cases hc
  | _=>exact aW _ _
 .rename_i e1 e2
  cases e1;cases e2
  rename_i e0
  have hb:=yQ (P:=P) h;have hu:SR P R L (VR R L) (underlying e0 >>= fun x=>match x with
    | .int .u8=>Conv.bytesToString v
    | .int .i32=>Conv.runesToString v
    | _=>stuck "Convert: a slice of what to string?") (underlying e0 >>= fun x=>match x with
    | .int .u8=>Conv.bytesToString w
    | .int .i32=>Conv.runesToString w
    | _=>stuck "Convert: a slice of what to string?"):=by
   refine aP fun de he=>?_
   rw[he] at hc
   cases de with
   | int k=>cases k <;> first|(cases hc;done)|exact hb
   | _=>cases hc
  cases h with
  | int k n=>exact ak (.string _)
  | string s=>exact ak (.string _)
  | _=>exact hu
 .rename_i e1 e2
  cases e1;cases e2
  cases h with
  | string s =>
   refine aP fun de he=>?_
   rw[he] at hc
   cases de with
   | int k=>cases k <;> first|(cases hc;done)|exact pX _ _
   | _=>cases hc
  | slice a b n c hab =>
   refine aP fun de he=>?_
   cases (s==d) with
   | false=>exact aW _ _
   | true =>
    rw[he] at hc
    cases de with
    | int k=>cases k <;> first|(cases hc;done)|exact aJ (p9 hab) fun _=>ak (.slice _ _ _ _ hab)
    | _=>cases hc
  | _=>exact aW _ _
 .cases hc
end
end Sr
end
section
open Go.Conc
namespace Sr
inductive LE(R:Nat->Nat->Prop)(L:FuncId->Bool):List MapEntry->List MapEntry->Prop
 | nil:LE R L [] []
 | cons {v w:MapEntry} {x y:List MapEntry} (h:ER R L v w) (k:LE R L x y):LE R L (v::x) (w::y)
section
variable {P:Program}{R:Nat->Nat->Prop}{L:FuncId->Bool}{α β:Type}{C:α->α->Prop}{D:β->β->Prop}
theorem LE.of:∀ {x y:List MapEntry},x.length=y.length->(∀ (i:Nat)(v w:MapEntry),x[i]? = some v->y[i]? = some w->ER R L v w)->LE R L x y
 | [],[],_,_=>.nil
 | v::x,w::y,h,k=>.cons (k 0 v w rfl rfl) (LE.of (by simpa using h) fun i a b ha hb=>k (i+1) a b (by simpa using ha) (by simpa using hb))
theorem LE.len:∀ {x y:List MapEntry},LE R L x y->x.length=y.length
 | _,_,.nil=>rfl
 | _,_,.cons _ k=>by simp[LE.len k]
theorem LE.get:∀ {x y:List MapEntry},LE R L x y->∀ (i:Nat)(v w:MapEntry),x[i]? = some v->y[i]? = some w->ER R L v w
 | _,_,.cons h k,0,a,b,ha,hb=>by simp at ha hb;subst ha hb;exact h
 | _,_,.cons h k,i+1,a,b,ha,hb=>LE.get k i a b (by simpa using ha) (by simpa using hb)
theorem EV.list{x y:Array MapEntry}(h:EV R L x y):LE R L x.toList y.toList:=LE.of (by simpa using h.1) fun i v w hv hw=>h.2 i v w (by simpa using hv) (by simpa using hw)
theorem LE.arr{x y:List MapEntry}(h:LE R L x y):EV R L x.toArray y.toArray:=⟨by simpa using h.len,fun i v w hv hw=>h.get i v w (by simpa using hv) (by simpa using hw)⟩
theorem LE.arr'{x y:Array MapEntry}(h:LE R L x.toList y.toList):EV R L x y:=by simpa using h.arr
theorem EV.nil:EV R L #[] #[]:=⟨rfl,fun i v w h _=>by simp at h⟩
theorem EV.get{x y:Array MapEntry}(h:EV R L x y)(i:Nat):(x[i]? = none/\y[i]? = none)\/∃ v w,x[i]? = some v/\y[i]? = some w/\ER R L v w:=by
 cases hx:x[i]? with
 | none =>
  refine .inl ⟨rfl,?_⟩;rw[Array.getElem?_eq_none_iff] at hx ⊢;rw[<-h.1];exact hx
 | some v =>
  have hlt:i<y.size:=by rw[<-h.1];exact(fT.1 hx).1
  exact .inr ⟨v,y[i],rfl,mJ hlt,h.2 i _ _ hx (mJ hlt)⟩
theorem EV.push{x y:Array MapEntry}(h:EV R L x y){v w:MapEntry}(hv:ER R L v w):EV R L (x.push v) (y.push w):=by
 refine⟨by simp[h.1],fun i a b ha hb=>?_⟩;rw[Qi] at ha hb;split at ha
 .rw[<-h.1] at hb;rename_i hi
  rw[if_pos hi] at hb
  cases ha;cases hb;exact hv
 .rw[<-h.1] at hb;rename_i hi
  rw[if_neg hi] at hb;exact h.2 i a b ha hb
theorem EV.modify{x y:Array MapEntry}(h:EV R L x y)(j:Nat){f g:MapEntry->MapEntry}(hf:∀ a b,ER R L a b->ER R L (f a) (g b)):EV R L (x.modify j f) (y.modify j g):=by
 refine⟨by simp[h.1],fun i a b ha hb=>?_⟩;rw[qa3] at ha hb;split at ha
 .rename_i hij
  rw[if_pos hij] at hb;obtain⟨a0,h1,rfl⟩:=zA.1 ha;obtain⟨b0,h2,rfl⟩:=zA.1 hb;exact hf _ _ (h.2 i a0 b0 h1 h2)
 .rename_i hij
  rw[if_neg hij] at hb;exact h.2 i a b ha hb
theorem LE.erase:∀ {x y:List MapEntry},LE R L x y->∀ i,LE R L (x.eraseIdx i) (y.eraseIdx i)
 | _,_,.nil,i=>.nil
 | _,_,.cons h k,0=>k
 | _,_,.cons h k,i+1=>.cons h (LE.erase k i)
theorem EV.erase{x y:Array MapEntry}(h:EV R L x y)(j:Nat):EV R L (x.eraseIdxIfInBounds j) (y.eraseIdxIfInBounds j):=by
 unfold Array.eraseIdxIfInBounds;have hs:=h.1;by_cases hj:j<x.size
 .have hj':j<y.size:=by omega
  rw[dif_pos hj,dif_pos hj'];refine LE.arr' ?_;rw[Array.toList_eraseIdx,Array.toList_eraseIdx];exact h.list.erase j
 .have hj':¬ j<y.size:=by omega
  rw[dif_neg hj,dif_neg hj'];exact h
theorem LE.filter{p:MapEntry->Bool}(hp:∀ a b,ER R L a b->p a=p b):∀ {x y:List MapEntry},LE R L x y->LE R L (x.filter p) (y.filter p)
 | _,_,.nil=>.nil
 | _,_,.cons (v:=v) (w:=w) h k=>by
  rw[List.filter_cons,List.filter_cons,hp v w h];split
  .exact .cons h (LE.filter hp k)
  .exact LE.filter hp k
theorem EV.filter{p:MapEntry->Bool}(hp:∀ a b,ER R L a b->p a=p b){x y:Array MapEntry}(h:EV R L x y):EV R L (x.filter p) (y.filter p):=by
 refine LE.arr' ?_;rw[Array.toList_filter,Array.toList_filter];exact h.list.filter hp
theorem LE.app{x y a b:List MapEntry}(h:LE R L x y)(k:LE R L a b):LE R L (x++a) (y++b):=by
 induction h with
 | nil=>exact k
 | cons h _ ih=>exact .cons h ih
theorem EV.app{x y a b:Array MapEntry}(h:EV R L x y)(k:EV R L a b):EV R L (x++a) (y++b):=by
 refine LE.arr' ?_;rw[qbx,qbx];exact h.list.app k.list
theorem EV.all{p:MapEntry->Bool}(hp:∀ a b,ER R L a b->p a=p b){x y:Array MapEntry}(h:EV R L x y):x.all p=y.all p:=by
 rw[<-Array.all_toList,<-Array.all_toList];have:=h.list;generalize x.toList=l at this;generalize y.toList=m at this
 induction this with
 | nil=>rfl
 | cons h _ ih=>simp only[JJ,ih,hp _ _ h]
theorem EV.empty{x y:Array MapEntry}(h:EV R L x y):x.isEmpty=y.isEmpty:=by
 rw[Array.isEmpty,Array.isEmpty,h.1]
theorem EV.find{p:MapEntry->Bool}(hp:∀ a b,ER R L a b->p a=p b){x y:Array MapEntry}(h:EV R L x y):(x.find? p=none/\y.find? p=none)\/∃ a b,x.find? p=some a/\y.find? p=some b/\ER R L a b:=by
 rw[<-Array.find?_toList,<-Array.find?_toList];have:=h.list;generalize x.toList=l at this;generalize y.toList=m at this
 induction this with
 | nil=>exact .inl ⟨rfl,rfl⟩
 | @cons v w x y h _ ih =>
  rw[List.find?_cons,List.find?_cons,hp _ _ h]
  cases p w with
  | true=>exact .inr ⟨_,_,rfl,rfl,h⟩
  | false=>exact ih
def QU(P:Program)(t:TypeId):Bool:=match P.underlying t with
 | some (.int _)|some .string=>true
 | _=>false
theorem oG{t:TypeId}(hk:QU P t=true)(e e':Bool)(n:Nat)(v w:Value):SR P R L (·=·) (Instr.checkKey e (n+1) t v) (Instr.checkKey e' (n+1) t w):=by
 unfold Instr.checkKey;refine aP fun d hd=>?_
 unfold QU at hk;rw[hd] at hk
 cases d <;> first|(cases hk;done)|exact aI _
def Gg(k:Value):Prop:=(∀ t u,k≠.iface t u)/\∀ x,k≠.agg x
def FR(R:Nat->Nat->Prop)(L:FuncId->Bool)(k:Value):Option (Nat×Value)->Option (Nat×Value)->Prop
 | none,none=>True
 | some (i,v),some (j,w)=>Gg k/\i=j/\VR R L v w
 | _,_=>False
theorem aaW{t:TypeId}(hk:QU P t=true)(x y:Value):EqC P t x y:=by
 refine .inl ⟨1,?_⟩;unfold QU at hk;unfold I4
 cases h:P.underlying t with
 | none=>rfl
 | some d=>rw[h] at hk;cases d <;> first|(cases hk;done)|rfl
theorem OB{t:TypeId}(hk:QU P t=true){k k':Value}(hkv:VR R L k k')(hf:¬ Gg k)(d:Nat)(z z':Value):SR P R L (fun _ _=>False) (Op.equalIn (d+1) t k z) (Op.equalIn (d+1) t k' z'):=by
 unfold Op.equalIn;refine aP fun ds hds=>?_
 unfold QU at hk;rw[hds] at hk
 cases hkv with
 | iface t v w h=>cases ds <;> first|(cases hk;done)|(cases z <;> first|exact aj _ _|exact aW _ _)
 | tJ t a ht ha=>cases ds <;> first|(cases hk;done)|(cases z <;> first|exact aj _ _|exact aW _ _)
 | agg x y hx hv=>cases ds <;> first|(cases hk;done)|(cases z <;> first|exact aj _ _|exact aW _ _)
 | _=>exact absurd ⟨by simp,by simp⟩ hf
theorem uZ(hR:GB P R){t:TypeId}(hkt:QU P t=true){k k':Value}(hk:VR R L k k'):∀ {x y:List MapEntry},LE R L x y->∀ i,SR P R L (FR R L k) (Instr.findAsking t k x i) (Instr.findAsking t k' y i)
 | _,_,.nil,i=>ak trivial
 | _,_,.cons h l,i=>by
  unfold Instr.findAsking;by_cases hf:Gg k
  .refine aJ (qK hR _ _ (.inl (aaW hkt _ _)) hk h.key) fun b=>?_
   exact aF (ak ⟨hf,rfl,h.val⟩) (uZ hR hkt hk l (i+1))
  .exact aM (OB hkt hk hf _ _ _) fun _ _ h=>h.elim
theorem P8{d:TypeDesc}{k k' v v':Value}(hk:VR R L k k')(hv:VR R L v v'):Instr.sameNow d k v=Instr.sameNow d k' v':=by
 cases d with
 | int i=>cases hk <;> cases hv <;> rfl
 | string=>cases hk <;> cases hv <;> rfl
 | bool=>cases hk <;> cases hv <;> rfl
 | _=>rfl
theorem Hy{d:TypeDesc}{k k' v:Value}(hk:VR R L k k')(h:Instr.sameNow d k' v=some true):Gg k:=by
 cases hk with
 | iface t v w hh=>cases d <;> first|(cases h;done)|(cases v <;> cases h)
 | tJ t a ht ha=>cases d <;> first|(cases h;done)|(cases v <;> cases h)
 | agg x y hx hv=>cases d <;> first|(cases h;done)|(cases v <;> cases h)
 | _=>exact⟨by simp,by simp⟩
theorem Ch{d:TypeDesc}{k k':Value}(hk:VR R L k k'):∀ {x y:List MapEntry},LE R L x y->∀ i,(Instr.findNow d k x i=none/\Instr.findNow d k' y i=none)\/∃ a b,Instr.findNow d k x i=some a/\Instr.findNow d k' y i=some b/\FR R L k a b
 | _,_,.nil,i=>.inr ⟨none,none,rfl,rfl,trivial⟩
 | _,_,.cons h l,i=>by
  unfold Instr.findNow;rw[P8 hk h.key];split
  .rename_i hs
   exact .inr ⟨_,_,rfl,rfl,Hy hk hs,rfl,h.val⟩
  .exact Ch hk l (i+1)
  .exact .inl ⟨rfl,rfl⟩
theorem vL(hR:GB P R){t:TypeId}(hkt:QU P t=true){k k':Value}(hk:VR R L k k'){x y:List MapEntry}(h:LE R L x y):SR P R L (FR R L k) (Instr.findKey t k x) (Instr.findKey t k' y):=by
 unfold Instr.findKey;refine aP fun d hd=>?_
 rcases Ch (d:=d) hk h 0 with⟨h1,h2⟩|⟨a,b,h1,h2,h3⟩
 .rw[h1,h2];exact uZ hR hkt hk h 0
 .rw[h1,h2];exact ak h3
theorem Sb(hR:GB P R){t kt et:TypeId}(ht:P.underlying t=some (.map kt et))(hk:QU P kt=true)(hz:G5 P et=true){x x' i i':Value}(hx:VR R L x x')(hi:VR R L i i')(c:Bool):SR P R L (VR R L) (Instr.lookup t x i c) (Instr.lookup t x' i' c):=by
 unfold Instr.lookup;refine aP fun d hd=>?_
 rw[ht] at hd
 cases hd
 have rest:∀ {es es':Array MapEntry},EV R L es es'->SR P R L (VR R L) (do
   Instr.checkKey es.isEmpty 10000 kt i
   let (v,ok) <-match <-Instr.findKey kt i es.toList with
    | some (_,v)=>pure (v,true)
    | none=>pure (<- zeroValue et,false)
   pure (if c then .tuple #[v,.bool ok] else v)) (do
   Instr.checkKey es'.isEmpty 10000 kt i'
   let (v,ok) <-match <-Instr.findKey kt i' es'.toList with
    | some (_,v)=>pure (v,true)
    | none=>pure (<- zeroValue et,false)
   pure (if c then .tuple #[v,.bool ok] else v)):=fun {es es'} he=>by
  refine aJ (oG hk _ _ 9999 _ _) fun _=>?_
  refine aM (vL hR hk hi he.list) fun a b hab=>?_
  have fin:∀ {v w:Value}(ok:Bool),VR R L v w->VR R L (if c then .tuple #[v,.bool ok] else v) (if c then .tuple #[w,.bool ok] else w):=fun {v w} ok hv=>by
   split
   .exact VR.q9 (AV.two hv (.bool _))
   .exact hv
  cases a with
  | none=>cases b with
   | none=>exact kV hz fun z hz=>ak (fin _ hz)
   | some b=>exact hab.elim
  | some a=>cases b with
   | none=>exact hab.elim
   | some b=>exact ak (fin _ hab.2.2)
 cases hx with
 | fV=>exact rest EV.nil
 | map r s h =>
  refine aM (fq h) fun o o' ho=>?_
  cases ho with
  | map x y c h=>exact rest h
  | _=>exact dH
 | _=>exact dH
theorem Rl(hR:PB R){a b c d:Addr}(h:AR R a b)(h':AR R c d):(some a==some c)=(some b==some d):=by
 have:=hR.addr h h';rw[qbG] at this ⊢;simpa using this
theorem KO(hR:PB R):∀ (n:Nat){v v' w w':Value},Gg w->VR R L v v'->VR R L w w'->Instr.sameBits n v w=Instr.sameBits n v' w'
 | 0,_,_,_,_,_,hv,hw=>by
  cases hv with
  | ptr a b h=>cases hw with
   | ptr c d h'=>exact Rl hR h h'
   | _=>rfl
  | _=>cases hw <;> rfl
 | n+1,_,_,_,_,hf,hv,hw=>by
  cases hv with
  | ptr a b h=>cases hw with
   | ptr c d h'=>exact Rl hR h h'
   | _=>rfl
  | iface t v v' h=>cases hw with
   | iface u w w' h'=>exact absurd rfl (hf.1 _ _)
   | tJ u a ht ha=>exact absurd rfl (hf.1 _ _)
   | _=>rfl
  | tJ t a ht ha=>cases hw with
   | iface u w w' h'=>exact absurd rfl (hf.1 _ _)
   | tJ u a ht ha=>exact absurd rfl (hf.1 _ _)
   | _=>rfl
  | agg x y hx hv=>cases hw with
   | agg a b ha hb=>exact absurd rfl (hf.2 _)
   | _=>rfl
  | _=>cases hw <;> rfl
theorem AX(hR:PB R){v v' w w':Value}(hf:Gg w)(hv:VR R L v v')(hw:VR R L w w'):SR P R L (VR R L) (Instr.keyThatStays v w) (Instr.keyThatStays v' w'):=by
 unfold Instr.keyThatStays;rw[KO hR _ hf hv hw];refine aF (ak hw) ?_;refine gP fun n=>ak ?_
 split
 .exact hw
 .exact hv
theorem EV.agX{x y:Array MapEntry}(h:EV R L x y)(i:Nat){k k':Value}(hk:VR R L k k'):VR R L (((x[i]?).map (·.key)).getD k) (((y[i]?).map (·.key)).getD k'):=by
 rcases h.get i with⟨h1,h2⟩|⟨a,b,h1,h2,h3⟩
 .rw[h1,h2];exact hk
 .rw[h1,h2];exact h3.key
theorem I9(hR:GB P R){t kt et:TypeId}(ht:P.underlying t=some (.map kt et))(hk:QU P kt=true){m m' k k' v v':Value}(hm:VR R L m m')(hkv:VR R L k k')(hv:VR R L v v'):SR P R L (·=·) (Instr.mapUpdate t m k v) (Instr.mapUpdate t m' k' v'):=by
 unfold Instr.mapUpdate;refine aP fun d hd=>?_
 rw[ht] at hd
 cases hd
 cases hm with
 | fV=>exact jK rfl
 | map r s h =>
  refine aM (fq h) fun o o' ho=>?_
  cases ho with
  | map x y c he =>
   refine aJ (oG hk _ _ 9999 _ _) fun _=>?_
   refine aM (vL hR hk hkv he.list) fun a b hab=>?_
   cases a with
   | none=>cases b with
    | none=>exact kE h (.map _ _ _ (he.push ⟨hkv,hv,rfl⟩))
    | some b=>exact hab.elim
   | some a=>cases b with
    | none=>exact hab.elim
    | some b =>
     obtain⟨i,w⟩:=a;obtain⟨j,w'⟩:=b;obtain⟨hfl,rfl,_⟩:=hab;refine aM (AX hR.toPB hfl (he.agX i hkv) hkv) fun q q' hq=>?_
     exact kE h (.map _ _ _ (he.modify i fun a b hab=>⟨hq,hv,hab.born⟩))
  | _=>exact aj _ _
 | _=>exact aj _ _
theorem N9(t:TypeId):SR P R L (VR R L) (Instr.makeMap t none) (Instr.makeMap t none) :=aM (ug (.map _ _ _ EV.nil)) fun n n' hn=>ak (.map _ _ hn)
theorem Ze{t:TypeId}{x x':Value}(hx:VR R L x x'):SR P R L (VR R L) (Instr.range t x) (Instr.range t x'):=by
 unfold Instr.range;refine aP fun d hd=>?_
 have fin:∀ {o o':Obj},OR R L o o'->SR P R L (VR R L) (do pure (.pointer (some ⟨<- newObj o,0,none⟩))) (do pure (.pointer (some ⟨<- newObj o',0,none⟩))):=fun ho =>
  aM (ug ho) fun n n' hn=>ak (.ptr _ _ ⟨hn,rfl,rfl⟩)
 cases d with
 | string=>cases hx with
  | string s=>exact fin (.sit _ _)
  | _=>exact dH
 | map a b=>cases hx with
  | fV=>exact fin (.fV _ _ _)
  | map r s h =>
   refine aM (fq h) fun o o' ho=>?_
   cases ho with
   | map x y c he=>exact fin (.M7 _ _ h _ _ _)
   | _=>exact dH
  | _=>exact dH
 | _=>exact dH
theorem Vz{v w:Value}(h:VR R L v w):SR P R L (VR R L) (Instr.entry v) (Instr.entry w):=by
 unfold Instr.entry
 cases h with
 | ptr a b hab =>
  obtain⟨r,o,s⟩:=a;obtain⟨r',o',s'⟩:=b;obtain⟨hr,ho,hs⟩:=hab;simp only at hr ho hs;subst ho hs
  cases o with
  | succ o=>exact aj _ _
  | zero =>
   refine aM (fq hr) fun o o' ho=>?_
   cases ho with
   | M7 m m' hm a s t =>
    dsimp only
    cases s.back? with
    | none=>exact aj _ _
    | some st =>
     refine aM (fq hm) fun o o' ho=>?_
     cases ho with
     | map x y c he =>
      refine aF dJ ?_;rcases he.find (p:=(·.born==st)) (fun a b hab=>by rw[hab.born]) with⟨h1,h2⟩|⟨a,b,h1,h2,h3⟩
      .rw[h1,h2];exact aW _ _
      .rw[h1,h2];exact ak (VR.q9 (AV.two h3.key h3.val))
     | _=>exact aj _ _
   | _=>exact aj _ _
 | _=>exact aj _ _
theorem Uh(hR:GB P R){ts:Array TypeId}{t mt kt et:TypeId}(h0:ts[0]? = some mt)(ht:P.underlying mt=some (.map kt et))(hk:QU P kt=true){xs ys:Array Value}(hx:AV R L xs ys):SR P R L (VR R L) (Builtin.delete_ ts t xs) (Builtin.delete_ ts t ys):=by
 unfold Builtin.delete_;rw[h0];rcases hx.get 0 with⟨h1,h2⟩|⟨m,m',h1,h2,hm⟩
 .rw[h1,h2];exact aj _ _
 rcases hx.get 1 with⟨h3,h4⟩|⟨k,k',h3,h4,hkv⟩
 .rw[h1,h2,h3,h4];exact aj _ _
 rw[h1,h2,h3,h4];refine aP fun d hd=>?_
 rw[ht] at hd
 cases hd
 have fin:VR R L (.tuple #[]) (.tuple #[]):=VR.q9 AV.nil
 cases hm with
 | fV=>exact aJ (oG hk _ _ 9999 _ _) fun _=>ak fin
 | map r s h =>
  refine aM (fq h) fun o o' ho=>?_
  cases ho with
  | map x y c he =>
   refine aJ (oG hk _ _ 9999 _ _) fun _=>?_
   refine aM (vL hR hk hkv he.list) fun a b hab=>?_
   cases a with
   | none=>cases b with
    | none=>exact aJ (kE h (.map _ _ _ he)) fun _=>ak fin
    | some b=>exact hab.elim
   | some a=>cases b with
    | none=>exact hab.elim
    | some b =>
     obtain⟨i,w⟩:=a;obtain⟨j,w'⟩:=b;obtain⟨_,rfl,_⟩:=hab;exact aJ (kE h (.map _ _ _ (he.erase i))) fun _=>ak fin
  | _=>exact dH
 | _=>exact dH
end
end Sr
end
end Go.Proofs.YtdbgldieilgnmaaGreatDoor
