/- J03 -/
import Derived.Test.YtdbgldieilgnmaaGreatDoorJ02
set_option linter.unusedVariables false
set_option linter.unusedSimpArgs false
set_option maxHeartbeats 8000000
set_option maxRecDepth 100000
namespace Go.Proofs.YtdbgldieilgnmaaGreatDoor
section
open Go.Conc
namespace Sr
section
variable {P:Program}{R:Nat->Nat->Prop}{L:FuncId->Bool}{α β:Type}{C:α->α->Prop}{D:β->β->Prop}
theorem sG{e:RuntimeError}(he:afY e=true){f g:α->Sem β}:SR P R L D (runtimePanic e >>= f) (runtimePanic e >>= g):=aM (C:=fun _ _=>False) (jK he) fun _ _ h=>h.elim
theorem acX{x y:Array MapEntry}(h:EV R L x y)(i:Nat):((x.map some)[i]? = none/\(y.map some)[i]? = none)\/∃ a b,(x.map some)[i]? = some (some a)/\(y.map some)[i]? = some (some b)/\ER R L a b:=by
 rw[JO,JO];rcases h.get i with⟨h1,h2⟩|⟨a,b,h1,h2,h3⟩
 .rw[h1,h2];exact .inl ⟨rfl,rfl⟩
 .rw[h1,h2];exact .inr ⟨a,b,rfl,rfl,h3⟩
theorem abD{v w:Value}(h:VR R L v w)(s:Bool)(t:TypeId):SR P R L (VR R L) (Instr.next v s t) (Instr.next w s t):=by
 unfold Instr.next
 have over:SR P R L (VR R L) (pure (.tuple #[.bool false])) (pure (.tuple #[.bool false])):=ak (VR.q9 (AV.one (.bool _)))
 cases h with
 | ptr a b hab =>
  obtain⟨r,o,sp⟩:=a;obtain⟨r',o',sp'⟩:=b;obtain⟨hr,ho,hs⟩:=hab;simp only at hr ho hs;subst ho hs
  cases o with
  | succ o=>exact aj _ _
  | zero =>
   refine aM (fq hr) fun o o' ho=>?_
   cases ho with
   | sit str p=>cases s with
    | false=>exact aj _ _
    | true =>
     refine aF ?_ over;exact aJ (kE hr (.sit _ _)) fun _=>ak (VR.q9 (AV.three (.bool _) (.int _ _) (.int _ _)))
   | fV a se st=>cases s with
    | true=>exact aj _ _
    | false=>exact over
   | M7 m m' hm since se st=>cases s with
    | true=>exact aj _ _
    | false =>
     refine aM (fq hm) fun o o' ho=>?_
     cases ho with
     | map x y c he =>
      dsimp only
      have e1:x.all (fun e=>decide (e.born>=st))=y.all (fun e=>decide (e.born>=st)):=he.all fun a b hab=>by rw[hab.born]
      rw[he.empty,e1];refine aF dJ ?_;have hl:=he.filter (p:=fun e=>!se.contains e.born) fun a b hab=>by rw[hab.born]
      generalize x.filter (fun e=>!se.contains e.born)=lx at hl;generalize y.filter (fun e=>!se.contains e.born)=ly at hl;have hold:=hl.filter (p:=fun e=>decide (e.born<since)) fun a b hab=>by rw[hab.born]
      have hnew:=hl.filter (p:=fun e=>decide (e.born>=since)) fun a b hab=>by rw[hab.born]
      generalize lx.filter (fun e=>decide (e.born<since))=ox at hold;generalize ly.filter (fun e=>decide (e.born<since))=oy at hold;generalize lx.filter (fun e=>decide (e.born>=since))=nx at hnew;generalize ly.filter (fun e=>decide (e.born>=since))=ny at hnew;rw[hold.empty];have hon:=hold.app hnew;generalize ox++nx=qx at hon;generalize oy++ny=qy at hon;have hsz:((if oy.isEmpty=true then #[none] else #[])++qx.map some).size=((if oy.isEmpty=true then #[none] else #[])++qy.map some).size:=by simp[hon.1]
      rw[hsz];refine gP fun n=>?_
      have hget:∀ i:Nat,(((if oy.isEmpty=true then #[none] else #[])++qx.map some)[i]? = ((if oy.isEmpty=true then #[none] else #[])++qy.map some)[i]?/\∀ e,((if oy.isEmpty=true then #[none] else #[])++qx.map some)[i]?≠some (some e))\/∃ a b,((if oy.isEmpty=true then #[none] else #[])++qx.map some)[i]? = some (some a)/\((if oy.isEmpty=true then #[none] else #[])++qy.map some)[i]? = some (some b)/\ER R L a b:=by
       intro i;have hz:∀ (i:Nat) e,(if oy.isEmpty=true then #[none] else #[]:Array (Option MapEntry))[i]?≠some (some e):=by
        intro i e;split
        .cases i <;> simp
        .simp
       generalize (if oy.isEmpty=true then #[none] else #[]:Array (Option MapEntry))=z at hz;rw[qci,qci];split
       .exact .inl ⟨rfl,fun e he=>hz _ e he⟩
       .rcases acX hon (i-z.size) with⟨h1,h2⟩|⟨a,b,h1,h2,h3⟩
        .exact .inl ⟨by rw[h1,h2],by rw[h1];simp⟩
        .exact .inr ⟨a,b,h1,h2,h3⟩
      rcases hget n with⟨h1,h2⟩|⟨a,b,h1,h2,h3⟩
      .rw[h1] at h2 ⊢;generalize ((if oy.isEmpty=true then #[none] else #[])++qy.map some)[n]? = q at h2
       cases q with
       | none=>exact aj _ _
       | some q=>cases q with
        | none=>exact over
        | some e=>exact absurd rfl (h2 e)
      .rw[h1,h2];dsimp only
       rw[h3.born];exact aJ (kE hr (.M7 _ _ hm _ _ _)) fun _=>ak (VR.q9 (AV.three (.bool _) h3.key h3.val))
     | _=>exact aj _ _
   | _=>cases s <;> exact aj _ _
 | _=>exact aj _ _
theorem Fw{x y:Value}(h:VR R L x y)(t:TypeId){a:TypeId}(hla:L (2*a+1000000000)=false)(hz:G5 P a=true):SR P R L (VR R L) (Instr.typeAssert x t a true) (Instr.typeAssert y t a true):=by
 unfold Instr.typeAssert;have fails:SR P R L (VR R L) (do pure (.tuple #[<-zeroValue a,.bool false])) (do pure (.tuple #[<-zeroValue a,.bool false])):=kV hz fun z hz=>ak (VR.q9 (AV.two hz (.bool _)))
 have holds:∀ {v w:Value},VR R L v w->SR P R L (VR R L) (pure (.tuple #[v,.bool true])) (pure (.tuple #[w,.bool true])):=fun hv=>ak (VR.q9 (AV.two hv (.bool _)))
 refine aP fun d hd=>?_
 cases d with
 | interface ms =>
  cases h with
  | nilIface=>exact fails
  | iface t2 v w h =>
   refine fJ fun i hi=>?_
   cases Instr.missingMethod ms i.methods with
   | none=>exact holds (.iface _ _ _ h)
   | some m=>exact fails
  | tJ t2 a ht ha =>
   refine fJ fun i hi=>?_
   cases Instr.missingMethod ms i.methods with
   | none=>exact holds (.tJ _ _ ht ha)
   | some m=>exact fails
  | _=>exact aj _ _
 | _ =>
  cases h with
  | nilIface=>exact fails
  | iface t2 v w h=>exact aF (holds h) fails
  | tJ t2 b ht hb =>
   have hne:¬ t2=a:=fun e=>by rw[e,hla] at ht;cases ht
   dsimp only
   first|(rw[if_neg hne];exact fails)|(rw[if_neg (show ¬ (t2==a)=true by simpa using hne)];exact fails)
  | _=>exact aj _ _
theorem yK(t:TypeId){x y:Value}(h:VR R L x y):SR P R L (VR R L) (Instr.makeInterface t x) (Instr.makeInterface t y):=by
 unfold Instr.makeInterface;refine aP fun d hd=>?_
 cases d <;> first|exact aj _ _|exact ak (.iface _ _ _ h)
theorem OD{x y:Value}(h:VR R L x y)(hn:x≠.nilIface):SR P R L (VR R L) (Instr.panic x) (Instr.panic y):=by
 unfold Instr.panic
 cases h with
 | iface t v w h=>exact BX (.iface _ _ _ h)
 | tJ t a ht ha=>exact BX (.tJ _ _ ht ha)
 | nilIface=>exact absurd rfl hn
 | _=>exact aj _ _
theorem AV.zero{x y:Array Value}(h:AV R L x y)(n:Nat):AV R L ((Array.range n).map (x[·%x.size]!)) ((Array.range n).map (y[·%y.size]!)) :=AV.abG _ fun i=>by rw[h.1];exact h.afy _
theorem AV.zeroCells{x y:Array Value}(h:AV R L x y)(n:Nat):AV R L (Builtin.zeroCells x n) (Builtin.zeroCells y n):=by
 unfold Builtin.zeroCells;rw[h.1];exact AV.abG _ fun i=>h.afy _
theorem Ib{t e:TypeId}(ht:P.underlying t=some (.slice e))(hz:G5 P e=true){n n' c c':Value}(hn:VR R L n n')(hc:VR R L c c'):SR P R L (VR R L) (Instr.makeSlice t n c) (Instr.makeSlice t n' c'):=by
 unfold Instr.makeSlice;refine aP fun d hd=>?_
 rw[ht] at hd
 cases hd
 refine aJ (lu hn) fun len=>?_
 refine aJ (lu hc) fun cap=>?_
 refine fJ fun i hi=>?_
 have jp:∀ {x y:Array Value}(k z m:Nat),AV R L x y->SR P R L (VR R L) (do let a <-newRow e ((Array.range m).map (x[·%x.size]!));pure (.slice (some a) z k)) (do let a <-newRow e ((Array.range m).map (y[·%y.size]!));pure (.slice (some a) z k)) :=
  fun k z m hx=>aM (pG (hx.zero _)) fun a b hab=>ak (.slice _ _ _ _ hab)
 have fin:∀ (k z:Nat),SR P R L (VR R L) (askRoom (k*i.bytes) >>= fun _=>Go.sizeOf e >>= fun s=>if k*s=0 then((pure #[]:Sem (Array Value)) >>= fun zero=>newRow e ((Array.range (k*s)).map (zero[·%zero.size]!)) >>= fun a=>pure (.slice (some a) z k)) else(zeroValue e >>= fun v=>(pure v.cells:Sem (Array Value)) >>= fun zero=>newRow e ((Array.range (k*s)).map (zero[·%zero.size]!)) >>= fun a=>pure (.slice (some a) z k)))
   (askRoom (k*i.bytes) >>= fun _=>Go.sizeOf e >>= fun s=>if k*s=0 then((pure #[]:Sem (Array Value)) >>= fun zero=>newRow e ((Array.range (k*s)).map (zero[·%zero.size]!)) >>= fun a=>pure (.slice (some a) z k)) else(zeroValue e >>= fun v=>(pure v.cells:Sem (Array Value)) >>= fun zero=>newRow e ((Array.range (k*s)).map (zero[·%zero.size]!)) >>= fun a=>pure (.slice (some a) z k))) :=
  fun k z=>aJ (DT _) fun _=>bL fun s=>aF (rz (jp _ _ _ AV.nil)) (kV hz fun v hv=>rz (jp _ _ _ hv.cells))
 exact aF (aF (sG rfl) (aF (sG rfl) (gP fun _=>sG rfl))) (fin _ _)
theorem QX{f:Nat->Option (Nat×Nat)}:∀ {p q:List (Nat×Value)}{x y:Array Value},AV R L x y->p.length=q.length->(∀ (i:Nat) a b,p[i]? = some a->q[i]? = some b->a.1=b.1/\VR R L a.2 b.2)->(Instr.fill f x p=none/\Instr.fill f y q=none)\/∃ a b,Instr.fill f x p=some a/\Instr.fill f y q=some b/\AV R L a b
 | [],[],x,y,hx,_,_=>.inr ⟨x,y,rfl,rfl,hx⟩
 |(i,v)::p,(j,w)::q,x,y,hx,hl,hp=>by
  obtain⟨h1,h2⟩:=hp 0 _ _ rfl rfl;have h1:i=j:=h1;have h2:VR R L v w:=h2;subst h1;unfold Instr.fill
  cases f i with
  | none=>exact .inl ⟨rfl,rfl⟩
  | some os =>
   obtain⟨off,size⟩:=os;dsimp only
   rw[h2.cells.1,hx.1];split
   .exact .inl ⟨rfl,rfl⟩
   .refine QX ?_ (by simpa using hl) fun k a b ha hb=>hp (k+1) a b (by simpa using ha) (by simpa using hb)
    have hc:=h2.cells.list;rw[<-qb4,<-qb4,Array.toList_zipIdx,Array.toList_zipIdx];have key:∀ {a b:List Value},LV R L a b->∀ (n:Nat){x y:Array Value},AV R L x y->AV R L ((a.zipIdx n).foldl (fun cs p=>cs.setIfInBounds (off+p.2) p.1) x) ((b.zipIdx n).foldl (fun cs p=>cs.setIfInBounds (off+p.2) p.1) y):=by
     intro a b h
     induction h with
     | nil=>intro n x y hx;exact hx
     | cons h _ ih=>intro n x y hx;rw[List.zipIdx_cons,List.zipIdx_cons,Xu,Xu];exact ih _ (hx.set _ h)
    exact key hc 0 hx
def PL(R:Nat->Nat->Prop)(L:FuncId->Bool)(p q:Array (Nat×Value)):Prop:=p.size=q.size/\∀ (i:Nat) a b,p[i]? = some a->q[i]? = some b->a.1=b.1/\VR R L a.2 b.2
theorem PL.fill{f:Nat->Option (Nat×Nat)}{p q:Array (Nat×Value)}(h:PL R L p q){x y:Array Value}(hx:AV R L x y):(Instr.fill f x p.toList=none/\Instr.fill f y q.toList=none)\/∃ a b,Instr.fill f x p.toList=some a/\Instr.fill f y q.toList=some b/\AV R L a b :=QX hx (by simpa using h.1) fun i a b ha hb=>h.2 i a b (by simpa using ha) (by simpa using hb)
theorem FJ{t e:TypeId}(ht:P.underlying t=some (.slice e))(hz:G5 P e=true)(n:Nat){p q:Array (Nat×Value)}(h:PL R L p q):SR P R L (VR R L) (Instr.buildSlice t n p) (Instr.buildSlice t n q):=by
 unfold Instr.buildSlice;refine aP fun d hd=>?_
 rw[ht] at hd
 cases hd
 refine bL fun s=>?_
 have jp:∀ {x y:Array Value},AV R L x y->SR P R L (VR R L) (match Instr.fill (fun i=>some (i*s,s)) ((Array.range (n*s)).map (x[·%x.size]!)) p.toList with
   | some cells=>do pure (.slice (some (<- newRow e cells)) n n)
   | _=>stuck "buildSlice: a part of the wrong size") (match Instr.fill (fun i=>some (i*s,s)) ((Array.range (n*s)).map (y[·%y.size]!)) q.toList with
   | some cells=>do pure (.slice (some (<- newRow e cells)) n n)
   | _=>stuck "buildSlice: a part of the wrong size"):=fun {x y} hx=>by
  rcases h.fill (f:=fun i=>some (i*s,s)) (hx.zero (n*s)) with⟨h1,h2⟩|⟨a,b,h1,h2,h3⟩
  .rw[h1];exact aj _ _
  .rw[h1,h2];exact aM (pG h3) fun a b hab=>ak (.slice _ _ _ _ hab)
 exact aF dJ (aF (rz (jp AV.nil)) (kV hz fun v hv=>rz (jp hv.cells)))
end
end Sr
end
section
open Go.Conc
namespace Sr
section
variable {P:Program}{R:Nat->Nat->Prop}{L:FuncId->Bool}{α β:Type}{C:α->α->Prop}{D:β->β->Prop}
theorem JY{γ δ:Type}{f:γ->Sem δ}(h:∀ a,SR P R L (·=·) (f a) (f a)):∀ l:List γ,SR P R L (·=·) (l.mapM f) (l.mapM f)
 | []=>by rw[qbs];exact aI _
 | a::l=>by
  rw[qbj];exact aJ (h a) fun b=>aJ (JY h l) fun bs=>aI _
theorem V4{t:TypeId}(hz:G5 P t=true){p q:Array (Nat×Value)}(h:PL R L p q):SR P R L (VR R L) (Instr.build t p) (Instr.build t q):=by
 unfold Instr.build;refine kV hz fun z hz=>?_
 refine aP fun d hd=>?_
 cases d with
 | struct fs =>
  refine aJ ?_ fun pl=>?_
  .rw[qaP];exact Hw (D:=(·=·)) (JY (fun f=>bL fun n=>aI _) _) fun a b e=>by rw[e]
  .rcases h.fill (f:=(pl[·]?)) hz.cells with⟨h1,h2⟩|⟨a,b,h1,h2,h3⟩
   .rw[h1];exact aj _ _
   .rw[h1,h2];exact ak (VR.DC h3)
 | array n e =>
  refine bL fun s=>?_
  rcases h.fill (f:=fun i=>some (i*s,s)) hz.cells with⟨h1,h2⟩|⟨a,b,h1,h2,h3⟩
  .rw[h1];exact aj _ _
  .rw[h1,h2];exact ak (VR.DC h3)
 | _=>exact aj _ _
theorem EH{v w:Value}(h:VR R L v w):SR P R L (·=·) (Builtin.lenOf v) (Builtin.lenOf w):=by
 cases h <;> first|exact aj _ _|exact aI _
theorem kX(s n:Nat){v w:Value}(h:VR R L v w):SR P R L (AV R L) (Builtin.firstCells s n v) (Builtin.firstCells s n w):=by
 cases h with
 | iq=>exact ak AV.nil
 | slice a b m c hab=>exact qw hab _
 | string str=>exact ak (AV.abG _ fun a=>.int _ _)
 | _=>exact aj _ _
theorem uS{a b:Addr}(h:AR R a b)(n:Nat):SR P R L (·=·) (Builtin.holdsCells a n) (Builtin.holdsCells b n):=by
 unfold Builtin.holdsCells;refine aJ (iB h.1) fun o=>?_
 cases o with
 | none=>exact aI _
 | some x=>obtain⟨e,m⟩:=x;rw[h.2.1,h.2.2];exact aI _
inductive BO(R:Nat->Nat->Prop):Option Addr->Option Addr->Prop
 | none:BO R none none
 | some {a b:Addr} (h:AR R a b):BO R (some a) (some b)
theorem MB(hR:PB R)(size sLen n:Nat){b b':Option Addr}(hb:BO R b b'){x x':Value}(hx:VR R L x x'):SR P R L (·=·) (Builtin.mayShare size sLen n b x) (Builtin.mayShare size sLen n b' x'):=by
 unfold Builtin.mayShare;have rest:∀ t:Bool,SR P R L (·=·) (do
   if !t then return true
   match x with
   | .slice (some c) _ _=>do pure (!(<- Builtin.holdsCells c (n*size))||b.any (·.block==c.block))
   | _=>pure false:Sem Bool) (do
   if !t then return true
   match x' with
   | .slice (some c) _ _=>do pure (!(<- Builtin.holdsCells c (n*size))||b'.any (·.block==c.block))
   | _=>pure false):=fun t=>by
  refine aF (aI _) ?_
  cases hx with
  | slice c d m k hcd =>
   refine aJ (uS hcd _) fun q=>?_
   have e:b.any (·.block==c.block)=b'.any (·.block==d.block):=by
    cases hb with
    | none=>rfl
    | some h=>exact hR.beq h.1 hcd.1
   rw[e];exact aI _
  | _=>exact aI _
 cases hb with
 | none=>exact rest true
 | some h=>exact aJ (uS h _) fun q=>aJ (nA (h.add _)) fun f=>rest _
theorem Tq(hR:PB R){ts:Array TypeId}{t st e:TypeId}(h0:ts[0]? = some st)(ht:P.underlying st=some (.slice e))(hz:G5 P e=true){xs ys:Array Value}(hx:AV R L xs ys):SR P R L (VR R L) (Builtin.append_ ts t xs) (Builtin.append_ ts t ys):=by
 unfold Builtin.append_;rw[h0];rcases hx.get 0 with⟨h1,h2⟩|⟨s,s',h1,h2,hs⟩
 .rw[h1];exact aj _ _
 rcases hx.get 1 with⟨h3,h4⟩|⟨x,x',h3,h4,Jg⟩
 .rw[h1,h3];exact aj _ _
 rw[h1,h2,h3,h4];refine aP fun d hd=>?_
 rw[ht] at hd
 cases hd
 by_cases hsl:∃ (b b':Option Addr)(n c:Nat),s=.slice b n c/\s'=.slice b' n c/\BO R b b'
 case neg =>
  cases hs with
  | slice a b n c hab=>exact absurd ⟨_,_,n,c,rfl,rfl,.some hab⟩ hsl
  | iq n c=>exact absurd ⟨_,_,n,c,rfl,rfl,.none⟩ hsl
  | _=>exact aj _ _
 obtain⟨base,base',sLen,sCap,rfl,rfl,hb⟩:=hsl;refine bL fun size=>?_
 extract_lets -underBinder jp jq
 have hj:∀ z,SR P R L (VR R L) (jp z) (jq z):=by
  intro z;simp -zeta only[jp,jq]
  extract_lets -underBinder jn jm
  have hn:∀ n,SR P R L (VR R L) (jn n) (jm n):=by
   intro n;simp -zeta only[jn,jm];have happ:SR P R L (AV R L) (if (!z)=true then Builtin.firstCells size n x else if n*size=0 then pure #[] else do pure (Builtin.zeroCells (<- zeroValue e).cells n)) (if (!z)=true then Builtin.firstCells size n x' else if n*size=0 then pure #[] else do pure (Builtin.zeroCells (<- zeroValue e).cells n)) :=aF (kX _ _ Jg) (aF (ak AV.nil) (kV hz fun z hz=>ak (hz.cells.zeroCells _)))
   dsimp only
   refine aF (aM happ fun new new' hnew=>?_) (fJ fun ti hti=>?_)
   .cases hb with
    | none=>exact ak (.iq _ _)
    | some h=>exact aJ (iY (h.add _) hnew.list 0) fun _=>ak (.slice _ _ _ _ h)
   .refine aF (sG rfl) ?_;refine fJ fun ti2 ahT=>?_
    have tail:SR P R L (VR R L) (do
      let newCap <-choose (Question.appendCap (sLen+n) sCap e)
      let __do_lift <-typeInfo e
      askRoom (newCap*__do_lift.bytes)
      let old <-Builtin.firstCells size sLen (Value.slice base sLen sCap)
      let new <-(if (!z)=true then Builtin.firstCells size n x else if n*size=0 then pure #[] else do pure (Builtin.zeroCells (<- zeroValue e).cells n))
      let __do_lift <-zeroValue e
      let __do_lift <-newRow e (old++new++Builtin.zeroCells __do_lift.cells (newCap-(sLen+n)))
      pure (Value.slice (some __do_lift) (sLen+n) newCap)) (do
      let newCap <-choose (Question.appendCap (sLen+n) sCap e)
      let __do_lift <-typeInfo e
      askRoom (newCap*__do_lift.bytes)
      let old <-Builtin.firstCells size sLen (Value.slice base' sLen sCap)
      let new <-(if (!z)=true then Builtin.firstCells size n x' else if n*size=0 then pure #[] else do pure (Builtin.zeroCells (<- zeroValue e).cells n))
      let __do_lift <-zeroValue e
      let __do_lift <-newRow e (old++new++Builtin.zeroCells __do_lift.cells (newCap-(sLen+n)))
      pure (Value.slice (some __do_lift) (sLen+n) newCap)):=by
     refine gP fun cap=>fJ fun ti3 _=>aJ (DT _) fun _=>?_
     refine aM (kX _ _ hs) fun old old' hold=>aM happ fun new new' hnew=>?_
     refine kV hz fun zv hzv=>?_
     exact aM (pG ((hold.app hnew).app (hzv.cells.zeroCells _))) fun a b hab=>ak (.slice _ _ _ _ hab)
    refine aF ?_ tail;refine aJ ?_ fun _=>tail
    refine aF (jK rfl) ?_;refine aJ (MB hR _ _ _ hb Jg) fun c=>?_
    exact aF (aJ (IW rfl) fun _=>aW _ _) (aW _ _)
  clear_value jn jm
  refine aF (aJ (lu Jg) fun l=>?_) (aJ (EH Jg) fun n=>hn n);dsimp only
  refine aF (sG rfl) ?_;refine fJ fun ti hti=>?_
  exact aF (gP fun _=>sG rfl) (hn _)
 clear_value jp jq
 cases ts[1]? with
 | none=>exact rz (hj _)
 | some xt=>exact aP fun d _=>rz (hj _)
theorem aaw{ts:Array TypeId}{t:TypeId}{xs ys:Array Value}(hx:AV R L xs ys):SR P R L (VR R L) (Builtin.copy_ ts t xs) (Builtin.copy_ ts t ys):=by
 unfold Builtin.copy_
 cases ts[0]? with
 | none=>exact aj _ _
 | some dt =>
  rcases hx.get 0 with⟨h1,h2⟩|⟨s,s',h1,h2,hs⟩
  .rw[h1];exact aj _ _
  rcases hx.get 1 with⟨h3,h4⟩|⟨x,x',h3,h4,Jg⟩
  .rw[h1,h3];exact aj _ _
  rw[h1,h2,h3,h4];refine aP fun d hd=>?_
  cases d with
  | slice e =>
   cases hs with
   | iq n c =>
    refine aJ (EH Jg) fun n=>?_
    refine bL fun sz=>?_
    refine aM (kX _ _ Jg) fun x y hx=>?_
    exact ak (.int _ _)
   | slice a b n c hab =>
    refine aJ (EH Jg) fun n=>?_
    refine bL fun sz=>?_
    refine aM (kX _ _ Jg) fun x y hx=>?_
    exact aJ (iY hab hx.list 0) fun _=>ak (.int _ _)
   | _=>exact aj _ _
  | _=>exact aj _ _
def adI(P:Program)(t:TypeId):Bool:=match P.underlying t with
 | some (.slice e)=>G5 P e
 | _=>true
theorem Vs{ts:Array TypeId}{t st:TypeId}(h0:ts[0]? = some st)(hz:adI P st=true){xs ys:Array Value}(hx:AV R L xs ys):SR P R L (VR R L) (Builtin.clear_ ts t xs) (Builtin.clear_ ts t ys):=by
 unfold Builtin.clear_;rw[h0];have fin:VR R L (.tuple #[]) (.tuple #[]):=VR.q9 AV.nil;rcases hx.get 0 with⟨h1,h2⟩|⟨s,s',h1,h2,hs⟩
 .rw[h1];exact aj _ _
 rw[h1,h2];refine aP fun d hd=>?_
 have hmap:∀ {r r':Nat},R r r'->SR P R L (VR R L) (do
   let .map _ clock <-getObj r|stuck "clear: map expected"
   setObj r (.map #[] clock)
   pure (.tuple #[])) (do
   let .map _ clock <-getObj r'|stuck "clear: map expected"
   setObj r' (.map #[] clock)
   pure (.tuple #[])):=fun h=>by
  refine aM (fq h) fun o o' ho=>?_
  cases ho with
  | map x y c he=>exact aJ (kE h (.map _ _ _ EV.nil)) fun _=>ak fin
  | _=>exact aj _ _
 cases hs with
 | fV=>cases d <;> exact ak fin
 | iq n c=>cases d <;> exact ak fin
 | map r s h=>cases d <;> exact hmap h
 | slice a b n c hab =>
  cases n with
  | zero=>cases d <;> exact ak fin
  | succ n =>
   cases d with
   | slice e =>
    unfold adI at hz;rw[hd] at hz;exact kV hz fun z hz=>aJ (iY hab (hz.cells.zeroCells _).list 0) fun _=>ak fin
   | _=>exact dH
 | _=>cases d <;> exact dH
def acu(P:Program)(t:TypeId):Bool:=match P.underlying t with
 | some (.chan _ _)=>false
 | _=>true
theorem adS{ts:Array TypeId}{t st:TypeId}(h0:ts[0]? = some st)(hl:acu P st=true){xs ys:Array Value}(hx:AV R L xs ys):SR P R L (VR R L) (Builtin.len_ ts t xs) (Builtin.len_ ts t ys):=by
 unfold Builtin.len_;rw[h0];rcases hx.get 0 with⟨h1,h2⟩|⟨s,s',h1,h2,hs⟩
 .rw[h1];exact aj _ _
 rw[h1,h2];refine aP fun d hd=>?_
 unfold acu at hl;rw[hd] at hl
 cases d with
 | chan a b=>cases hl
 | string=>cases hs with
  | string s=>exact ak (.int _ _)
  | _=>exact aj _ _
 | array n e=>exact ak (.int _ _)
 | pointer e =>
  refine aP fun d2 _=>?_
  cases d2 with
  | array n e=>exact ak (.int _ _)
  | _=>exact aj _ _
 | slice e=>cases hs with
  | iq n c=>exact ak (.int _ _)
  | slice a b n c h=>exact ak (.int _ _)
  | _=>exact aj _ _
 | map a b=>cases hs with
  | fV=>exact ak (.int _ _)
  | map r s h =>
   refine aM (fq h) fun o o' ho=>?_
   cases ho with
   | map x y c he=>exact ak (by rw[he.1];exact .int _ _)
   | _=>exact aj _ _
  | _=>exact aj _ _
 | _=>exact aj _ _
theorem aaq{x y x' y':Value}(hx:VR R L x x')(hy:VR R L y y'):SR P R L (VR R L) (Builtin.max2 x y) (Builtin.max2 x' y'):=by
 cases hx with
 | int k n=>cases hy with
  | int k m=>exact ak (.int _ _)
  | ptr a b h=>exact aW _ _
  | _=>exact aj _ _
 | string s=>cases hy with
  | string s'=>exact aM (sP _ _ _) fun v w hv=>aJ (zn hv) fun b=>ak (.string _)
  | ptr a b h=>exact aW _ _
  | _=>exact aj _ _
 | ptr a b h=>cases hy <;> exact aW _ _
 | _=>cases hy <;> first|exact aj _ _|exact aW _ _
theorem aa5{x y x' y':Value}(hx:VR R L x x')(hy:VR R L y y'):SR P R L (VR R L) (Builtin.min2 x y) (Builtin.min2 x' y'):=by
 cases hx with
 | int k n=>cases hy with
  | int k m=>exact ak (.int _ _)
  | ptr a b h=>exact aW _ _
  | _=>exact aj _ _
 | string s=>cases hy with
  | string s'=>exact aM (sP _ _ _) fun v w hv=>aJ (zn hv) fun b=>ak (.string _)
  | ptr a b h=>exact aW _ _
  | _=>exact aj _ _
 | ptr a b h=>cases hy <;> exact aW _ _
 | _=>cases hy <;> first|exact aj _ _|exact aW _ _
theorem Cq{f:Value->Value->Sem Value}(hf:∀ {x y x' y':Value},VR R L x x'->VR R L y y'->SR P R L (VR R L) (f x y) (f x' y')):∀ {l m:List Value},LV R L l m->∀ {x y:Value},VR R L x y->SR P R L (VR R L) (l.foldlM f x) (m.foldlM f y)
 | _,_,.nil,x,y,h=>by rw[List.foldlM_nil,List.foldlM_nil];exact ak h
 | _,_,.cons hv k,x,y,h=>by rw[List.foldlM_cons,List.foldlM_cons];exact aM (hf h hv) fun a b hab=>Cq hf k hab
theorem adK{ts:Array TypeId}{t:TypeId}{xs ys:Array Value}(hx:AV R L xs ys):SR P R L (VR R L) (Builtin.max_ ts t xs) (Builtin.max_ ts t ys):=by
 unfold Builtin.max_;have:=hx.list;generalize xs.toList=l at this;generalize ys.toList=m at this
 cases this with
 | nil=>exact aj _ _
 | cons h k=>exact Cq aaq k h
theorem ad9{ts:Array TypeId}{t:TypeId}{xs ys:Array Value}(hx:AV R L xs ys):SR P R L (VR R L) (Builtin.min_ ts t xs) (Builtin.min_ ts t ys):=by
 unfold Builtin.min_;have:=hx.list;generalize xs.toList=l at this;generalize ys.toList=m at this
 cases this with
 | nil=>exact aj _ _
 | cons h k=>exact Cq aa5 k h
theorem Dl{a b:Addr}(h:AR R a b)(u:TypeId)(n:Nat):SR P R L (·=·) (variablesAt a u n) (variablesAt b u n):=by
 unfold variablesAt;refine bG ?_;refine aJ (iB h.1) fun o=>?_
 cases o with
 | none=>exact aI _
 | some x=>rw[h.2.1];exact aI _
theorem xL:∀ (n:Nat){a b:Addr}(h:AR R a b)(acc:ByteArray),SR P R L (·=·) (loadBytes a acc n) (loadBytes b acc n)
 | 0,a,b,h,acc=>aI _
 | n+1,a,b,h,acc=>by
  unfold loadBytes;refine aM (xK h) fun v w hv=>?_
  cases hv with
  | int k m=>cases k <;> first|exact aj _ _|exact xL n (h.add 1) _
  | _=>exact aj _ _
theorem AQ{ts:Array TypeId}{t:TypeId}{x y x' y':Value}(hx:VR R L x x')(hy:VR R L y y'):SR P R L (VR R L) (Builtin.unsafeString_ ts t #[x,y]) (Builtin.unsafeString_ ts t #[x',y']):=by
 unfold Builtin.unsafeString_
 cases hx with
 | gV =>
  refine aJ (lu hy) fun n=>?_
  cases ts[0]? with
  | none=>exact aj _ _
  | some pt=>exact aF (sG rfl) (aF dJ (aF (ak (.string _)) (jK rfl)))
 | ptr a b h =>
  refine aJ (lu hy) fun n=>?_
  cases ts[0]? with
  | none=>exact aj _ _
  | some pt =>
   refine aF (sG rfl) (aF dJ (aF (ak (.string _)) ?_));refine aJ SQ fun e=>?_
   refine aJ (Dl h _ _) fun c=>?_
   refine aF ?_ (aW _ _);exact aJ (xL _ h _) fun s=>aJ (Gs h _) fun _=>ak (.string _)
 | _=>exact aj _ _
end
end Sr
end
section
open Go.Conc
namespace Sr
inductive TR(R:Nat->Nat->Prop)(L:FuncId->Bool):Target->Target->Prop
 | fn (f:FuncId) (hf:L f=true) (x y:Array Value) (h:AV R L x y):TR R L (.fn (.func f) x) (.fn (.func f) y)
 | nil:TR R L .nil .nil
 | builtin (b:Builtin) (ts:Array TypeId) (t:TypeId) (cs:Array Bool):TR R L (.builtin b ts t cs) (.builtin b ts t cs)
structure DR(R:Nat->Nat->Prop)(L:FuncId->Bool)(x y:Deferred):Prop where
 target:TR R L x.target y.target
 args:AV R L x.args y.args
structure CR(R:Nat->Nat->Prop)(L:FuncId->Bool)(x y:CommCase):Prop where
 chan:VR R L x.chan y.chan
 send:VO R L x.send y.send
 zero:VR R L x.zero y.zero
def CV(R:Nat->Nat->Prop)(L:FuncId->Bool)(x y:Array CommCase):Prop:=x.size=y.size/\∀ (i:Nat) a b,x[i]? = some a->y[i]? = some b->CR R L a b
inductive NR(R:Nat->Nat->Prop)(L:FuncId->Bool)(Z:Bool):Next->Next->Prop
 | value {v w:Value} (h:VR R L v w):NR R L Z (.value v) (.value w)
 | skip:NR R L Z .skip .skip
 | enter (f:FuncId) (hf:L f=true) {x y:Array Value} (h:AV R L x y):NR R L Z (.enter f x) (.enter f y)
 | defer {x y:Deferred} (hz:Z=false) (h:DR R L x y):NR R L Z (.defer x) (.defer y)
 | recover (hz:Z=false):NR R L Z .recover .recover
 | comm (hz:Z=false) {x y:Array CommCase} (h:CV R L x y) (b:Bool) (s:CommShape):NR R L Z (.comm x b s) (.comm y b s)
def fK(P:Program)(f:FuncId):Prop:=(P.funcs[f]? = none\/∃ fn,P.funcs[f]? = some fn/\(fn.name == "runtime.NumGoroutine")=false /\
 ((∃ c,fn.body=some c)\/(fn.body=none/\Extern.findNext fn=none/\(Extern.find fn=some Extern.BytealgIndexByte.indexByte\/Extern.find fn=some Extern.BytealgIndex.index)))) /\
 ∀ t:Nat,f=2*t+1000000000->∃ e,P.underlying t=some (.pointer e)
def Dso(R:Nat->Nat->Prop)(L:FuncId->Bool):Prop:=∀ a b:Nat,R a b->L (2*a+1000000001)=false/\L (2*b+1000000001)=false
theorem Vj{P:Program}{R:Nat->Nat->Prop}{L:FuncId->Bool}(hL:∀ f,L f=true->fK P f)(hd:Dso R L):OqD P R L:=⟨hd,fun t h=>(hL _ h).2 t rfl⟩
section
variable {P:Program}{R:Nat->Nat->Prop}{L:FuncId->Bool}{Z:Bool}{α β:Type}{C:α->α->Prop}{D:β->β->Prop}
theorem uI:∀ (n:Nat){a b:Addr}(h:AR R a b)(acc:ByteArray),SR P R L (·=·) (Extern.Bytes.loadBytes a n acc) (Extern.Bytes.loadBytes b n acc)
 | 0,a,b,h,acc=>aI _
 | n+1,a,b,h,acc=>by
  unfold Extern.Bytes.loadBytes;refine aM (xK h) fun v w hv=>?_
  cases hv with
  | int k m=>cases k <;> first|exact aj _ _|exact uI n (h.add 1) _
  | _=>exact aj _ _
theorem vJ{v w:Value}(h:VR R L v w):SR P R L (·=·) (Extern.Bytes.bytesOf v) (Extern.Bytes.bytesOf w):=by
 cases h with
 | string s=>exact aI _
 | iq n c=>exact aI _
 | slice a b n c h=>exact uI _ h _
 | _=>exact aj _ _
theorem Ti{v w:Value}(h:VR R L v w):SR P R L (·=·) (Extern.Bytes.asByte v) (Extern.Bytes.asByte w):=by
 cases h with
 | int k m=>cases k <;> first|exact aj _ _|exact aI _
 | _=>exact aj _ _
theorem I5{xs ys:Array Value}(h:AV R L xs ys):SR P R L (VR R L) (Extern.BytealgIndexByte.indexByte xs) (Extern.BytealgIndexByte.indexByte ys):=by
 have hl:=h.list;obtain⟨x⟩:=xs;obtain⟨y⟩:=ys;simp only at hl
 cases hl with
 | nil=>exact aj _ _
 | cons h1 k=>cases k with
  | nil=>exact aj _ _
  | cons h2 k=>cases k with
   | cons h3 k=>exact aj _ _
   | nil =>
    refine aJ (vJ h1) fun b=>aJ (Ti h2) fun c=>?_
    split
    .exact ak (.int _ _)
    .exact ak (.int _ _)
theorem TD(hR:GB P R){xs ys:Array Value}(h:AV R L xs ys):SR P R L (VR R L) (Extern.BytealgIndex.index xs) (Extern.BytealgIndex.index ys):=by
 have hl:=h.list;obtain⟨x⟩:=xs;obtain⟨y⟩:=ys;simp only at hl
 cases hl with
 | nil=>exact aj _ _
 | cons h1 k=>cases k with
  | nil=>exact aj _ _
  | cons h2 k=>cases k with
   | cons h3 k=>exact aj _ _
   | nil =>
    refine aJ (vJ h1) fun b=>aJ (vJ h2) fun c=>?_
    refine aJ ?_ fun m=>?_
    .unfold Extern.BytealgIndex.maxLen globalAddr;refine aM (C:=AR R) ?_ fun a b hab=>aM (xK hab) fun v w hv=>lu hv
     refine bG ?_
     cases hg:P.globals.findIdx? (·.name == "internal/bytealg.MaxLen") with
     | none=>exact aj _ _
     | some g =>
      have hlt:g<P.globals.size:=by
       rw[Array.findIdx?_eq_some_iff_getElem] at hg;exact hg.1
      exact ak ⟨hR.gl g hlt,rfl,rfl⟩
    .refine aF dJ (aF dJ ?_);split
     .exact ak (.int _ _)
     .exact ak (.int _ _)
theorem Ll(hR:GB P R)(hL:∀ f,L f=true->fK P f){f:FuncId}(hf:L f=true){xs ys:Array Value}(h:AV R L xs ys):SR P R L (NR R L Z) (callFunc f xs) (callFunc f ys):=by
 unfold callFunc;refine bG ?_;rcases (hL f hf).1 with h0|⟨fn,h1,h2,h3⟩
 .rw[h0];exact aj _ _
 rw[h1];dsimp only
 rw[h2];simp only[jI,if_false];rcases h3 with⟨c,hc⟩|⟨hb,hn,he⟩
 .rw[hc];simp only[Option.isNone_some,jI,if_false];exact ak (.enter f hf h)
 .rw[hb];simp only[Option.isNone_none,if_true];refine aJ (IW rfl) fun _=>?_
  rw[hn];rcases he with he|he
  .rw[he];exact aM (I5 h) fun v w hv=>ak (.value hv)
  .rw[he];exact aM (TD hR h) fun v w hv=>ak (.value hv)
theorem Ot{v w:Value}(h:VR R L v w){xs ys:Array Value}(hx:AV R L xs ys):SR P R L (DR R L) (Deferred.ofValue v xs) (Deferred.ofValue w ys):=by
 cases h with
 | func f hf x c y d h1 h2 h3 h4=>exact ak ⟨.fn f hf _ _ ⟨h3,h4⟩,AV.app ⟨h1,h2⟩ hx⟩
 | nilFunc=>exact ak ⟨.nil,hx⟩
 | _=>exact aj _ _
end
def jL(P:Program)(L:FuncId->Bool):Operand->Bool
 | .tmp _=>true
 | .const v=>clean v
 | .global g=>decide (g<P.globals.size)
 | .func f=>L f
def okB(P:Program)(ts:Array TypeId):Builtin->Bool
 | .append=>match ts[0]? with
  | some t=>match P.underlying t with
   | some (.slice e)=>G5 P e
   | _=>false
  | none=>false
 | .clear=>match ts[0]? with
  | some t=>adI P t
  | none=>false
 | .delete=>match ts[0]? with
  | some t=>match P.underlying t with
   | some (.map k _)=>QU P k
   | _=>false
  | none=>false
 | .len=>match ts[0]? with
  | some t=>acu P t
  | none=>false
 | .copy|.max|.min|.recover=>true
 | _=>false
def pY(P:Program)(L:FuncId->Bool)(c:Call):Bool:=c.args.toList.all (jL P L)&&match c.callee with
 | .value f=>jL P L f
 | .builtin .unsafeString=>c.args.size==2
 | .builtin b=>okB P c.argTypes b
 | .invoke ..=>false
def uw(P:Program)(L:FuncId->Bool)(c:Call):Bool:=c.args.toList.all (jL P L)&&match c.callee with
 | .value f=>jL P L f
 | .builtin _=>true
 | .invoke ..=>false
def qI(P:Program)(L:FuncId->Bool)(ps:Array (Nat×Operand)):Bool:=ps.toList.all fun p=>jL P L p.2
def okO(P:Program)(L:FuncId->Bool):Option Operand->Bool
 | none=>true
 | some x=>jL P L x
def bT(P:Program)(L:FuncId->Bool):Op->Bool
 | .move x|.assign x=>jL P L x
 | .pick a b c=>jL P L a&&jL P L b&&jL P L c
 | .alloc t=>G5 P t
 | .box _ x=>jL P L x
 | .build t ps=>G5 P t&&qI P L ps
 | .buildSlice t _ ps=>qI P L ps&&match P.underlying t with
  | some (.slice e)=>G5 P e
  | _=>false
 | .load _ a=>jL P L a
 | .store _ a x=>jL P L a&&jL P L x
 | .nilCheck x=>jL P L x
 | .binOp _ _ x y _=>jL P L x&&jL P L y
 | .unOp _ _ x=>jL P L x
 | .convert s d x=>acz P s d&&jL P L x
 | .sliceToArrayPointer _ x=>jL P L x
 | .makeInterface _ x=>jL P L x
 | .makeFunc fn a b=>a.toList.all (jL P L)&&b.toList.all (jL P L)&&match fn with
  | .func f=>L f
  | _=>false
 | .makeMap _ none=>true
 | .makeSlice t n c=>jL P L n&&jL P L c&&match P.underlying t with
  | some (.slice e)=>G5 P e
  | _=>false
 | .slice _ x lo hi mx=>jL P L x&&okO P L lo&&okO P L hi&&okO P L mx
 | .fieldAddr _ x _|.field _ x _=>jL P L x
 | .indexAddr _ x i|.index _ x i=>jL P L x&&jL P L i
 | .lookup t x i _=>jL P L x&&jL P L i&&match P.underlying t with
  | some (.map k e)=>QU P k&&G5 P e
  | _=>false
 | .mapUpdate t m k x=>jL P L m&&jL P L k&&jL P L x&&match P.underlying t with
  | some (.map k _)=>QU P k
  | _=>false
 | .range _ x=>jL P L x
 | .next x _=>jL P L x
 | .entry x=>jL P L x
 | .typeAssert x _ a ok=>ok&&jL P L x&&G5 P a&&!L (2*a+1000000000)
 | .extract x _=>jL P L x
 | .panic x=>jL P L x
 | .call c=>pY P L c
 | .defer c=>uw P L c
 | .select cs _=>cs.toList.all fun s=>jL P L s.chan&&okO P L s.send&&G5 P s.elem
 | _=>false
section
variable {P:Program}{R:Nat->Nat->Prop}{L:FuncId->Bool}{Z:Bool}{ρ ρ':Operand->Value}
theorem iT{s t:Sem Value}(h:SR P R L (VR R L) s t):SR P R L (NR R L Z) (do pure (.value (<- s))) (do pure (.value (<- t))):=aM h fun v w hv=>ak (.value hv)
theorem aex{s t:Sem Unit}(h:SR P R L (·=·) s t):SR P R L (NR R L Z) (do s;pure .skip) (do t;pure .skip):=aJ h fun _=>ak .skip
theorem AV.ops(hρ:∀ x,jL P L x=true->VR R L (ρ x) (ρ' x)){xs:Array Operand}(h:xs.toList.all (jL P L)=true):AV R L (xs.map ρ) (xs.map ρ'):=by
 rw[Ej] at h;exact AV.mk' (by simp) fun i h1 h2=>by
  simp only[Array.getElem_map];exact hρ _ (h _ (by simp))
theorem VO.ops(hρ:∀ x,jL P L x=true->VR R L (ρ x) (ρ' x)){x:Option Operand}(h:okO P L x=true):VO R L (x.map ρ) (x.map ρ'):=by
 cases x with
 | none=>exact .none
 | some x=>exact .some (hρ x h)
theorem PL.ops(hρ:∀ x,jL P L x=true->VR R L (ρ x) (ρ' x)){xs:Array (Nat×Operand)}(h:qI P L xs=true):PL R L (xs.map fun (i,x)=>(i,ρ x)) (xs.map fun (i,x)=>(i,ρ' x)):=by
 unfold qI at h;rw[Ej] at h;refine⟨by simp,fun i a b ha hb=>?_⟩;rw[JO] at ha hb;obtain⟨p,hp,rfl⟩:=zA.1 ha;rw[hp] at hb
 cases hb
 exact⟨rfl,hρ _ (h p (by simpa using Array.mem_of_getElem? hp))⟩
theorem Od(hρ:∀ x,jL P L x=true->VR R L (ρ x) (ρ' x)){c:Call}{t:TypeId}(h:uw P L c=true):SR P R L (DR R L) (resolve ρ c t) (resolve ρ' c t):=by
 unfold uw at h;rw[fE] at h;have ha:=AV.ops (R:=R) hρ h.1;unfold resolve
 cases hc:c.callee with
 | builtin b=>exact ak ⟨.builtin _ _ _ _,ha⟩
 | value f=>rw[hc] at h;exact Ot (hρ f h.2) ha
 | invoke r m=>rw[hc] at h;exact absurd h.2 (by simp)
theorem zM(hR:GB P R)(hL:∀ f,L f=true->fK P f){x y:Deferred}(h:DR R L x y)(hb:∀ b ts t cs,x.target=.builtin b ts t cs->(b=.unsafeString/\x.args.size=2)\/okB P ts b=true)(hr:∀ ts t cs,x.target=.builtin .recover ts t cs->Z=false):SR P R L (NR R L Z) (invoke x.target x.args) (invoke y.target y.args):=by
 obtain⟨xt,xa⟩:=x;obtain⟨yt,ya⟩:=y;obtain⟨ht,ha⟩:=h;simp only at ht ha hb hr;unfold invoke
 cases ht with
 | nil=>exact jK rfl
 | fn f hf x y h=>exact Ll hR hL hf (ha.app h)
 | builtin b ts t cs =>
  have hb:=hb b ts t cs rfl;unfold builtin;by_cases hu:b=.unsafeString
  .subst hu;have h2:xa.size=2:=by
    rcases hb with h|h
    .exact h.2
    .cases h
   have hl:=ha.list;obtain⟨xa⟩:=xa;obtain⟨ya⟩:=ya;simp only[rJ] at hl h2
   cases hl with
   | nil=>simp at h2
   | cons h1 k=>cases k with
    | nil=>simp at h2
    | cons h3 k=>cases k with
     | cons h4 k=>simp at h2
     | nil=>exact iT (AQ h1 h3)
  .have hb:okB P ts b=true:=hb.resolve_left fun h=>hu h.1
   cases b <;> first|(cases hb;done)|skip
   .unfold okB at hb
    cases h0:ts[0]? with
    | none=>rw[h0] at hb;cases hb
    | some st =>
     rw[h0] at hb;dsimp only at hb
     cases hst:P.underlying st with
     | none=>rw[hst] at hb;cases hb
     | some d =>
      rw[hst] at hb
      cases d <;> first|(cases hb;done)|exact iT (Tq hR.toPB h0 hst hb ha)
   .unfold okB at hb
    cases h0:ts[0]? with
    | none=>rw[h0] at hb;cases hb
    | some st=>rw[h0] at hb;exact iT (Vs h0 hb ha)
   .exact iT (aaw ha)
   .unfold okB at hb
    cases h0:ts[0]? with
    | none=>rw[h0] at hb;cases hb
    | some st =>
     rw[h0] at hb;dsimp only at hb
     cases hst:P.underlying st with
     | none=>rw[hst] at hb;cases hb
     | some d =>
      rw[hst] at hb
      cases d <;> first|(cases hb;done)|exact iT (Uh hR h0 hst hb ha)
   .unfold okB at hb
    cases h0:ts[0]? with
    | none=>rw[h0] at hb;cases hb
    | some st=>rw[h0] at hb;exact iT (adS h0 hb ha)
   .exact iT (adK ha)
   .exact iT (ad9 ha)
   .exact ak (.recover (hr _ _ _ rfl))
theorem aaU(hR:GB P R)(hL:∀ f,L f=true->fK P f)(hρ:∀ x,jL P L x=true->VR R L (ρ x) (ρ' x)){c:Call}{t:TypeId}(h:pY P L c=true)(hr:c.callee=.builtin .recover->Z=false):SR P R L (NR R L Z) (do let d <-resolve ρ c t;invoke d.target d.args) (do let d <-resolve ρ' c t;invoke d.target d.args):=by
 have h0:=h;unfold pY at h;rw[fE] at h;have ha:=AV.ops (R:=R) hρ h.1;unfold resolve
 cases hc:c.callee with
 | builtin b =>
  rw[hc] at h;refine rz ?_;refine zM hR hL ⟨.builtin _ _ _ _,ha⟩ (fun b' ts t' cs e=>?_) (fun ts t' cs e=>by cases e;exact hr hc)
  cases e
  by_cases hu:b=.unsafeString
  .subst hu;exact .inl ⟨rfl,by simpa using h.2⟩
  .refine .inr ?_;have:=h.2
   cases b <;> first|exact this|exact absurd rfl hu
 | value f =>
  rw[hc] at h;refine aM (C:=fun a b=>DR R L a b/\∀ b ts t cs,a.target≠.builtin b ts t cs) ?_ fun a b hab=>zM hR hL hab.1 (fun b ts t cs e=>absurd e (hab.2 _ _ _ _)) (fun ts t cs e=>absurd e (hab.2 _ _ _ _))
  have hv:=hρ f h.2;dsimp only
  generalize ρ f=v at hv;generalize ρ' f=w at hv
  cases hv with
  | func f hf x c y d h1 h2 h3 h4=>exact ak ⟨⟨.fn f hf _ _ ⟨h3,h4⟩,AV.app ⟨h1,h2⟩ ha⟩,fun _ _ _ _ e=>by cases e⟩
  | nilFunc=>exact ak ⟨⟨.nil,ha⟩,fun _ _ _ _ e=>by cases e⟩
  | _=>exact aj _ _
 | invoke r m=>rw[hc] at h;exact absurd h.2 (by simp)
theorem z8(hρ:∀ x,jL P L x=true->VR R L (ρ x) (ρ' x)):∀ {l:List SelectCase},(l.all fun s=>jL P L s.chan&&okO P L s.send&&G5 P s.elem)=true->SR P R L (fun x y=>x.length=y.length/\∀ (i:Nat) a b,x[i]? = some a->y[i]? = some b->CR R L a b) (l.mapM fun s=>do pure {chan:=ρ s.chan,send:=s.send.map ρ,zero:=<-zeroValue s.elem:CommCase}) (l.mapM fun s=>do pure {chan:=ρ' s.chan,send:=s.send.map ρ',zero:=<-zeroValue s.elem:CommCase})
 | [],_=>by rw[qbs,qbs];exact ak ⟨rfl,fun i a b h _=>by simp at h⟩
 | s::l,h=>by
  rw[JJ,fE] at h;obtain⟨h1,h2⟩:=h;simp only[fE] at h1;rw[qbj,qbj];refine aM (C:=CR R L) (kV h1.2 fun z hz=>ak ⟨hρ _ h1.1.1,VO.ops hρ h1.1.2,hz⟩) fun a b hab=>?_
  refine aM (z8 hρ h2) fun x y hxy=>ak ⟨by simp[hxy.1],fun i c d hc hd=>?_⟩
  cases i with
  | zero=>simp at hc hd;subst hc hd;exact hab
  | succ i=>exact hxy.2 i c d (by simpa using hc) (by simpa using hd)
theorem GN(hR:GB P R)(hL:∀ f,L f=true->fK P f)(hρ:∀ x,jL P L x=true->VR R L (ρ x) (ρ' x))(hO:OqD P R L){o:Oper}(ho:bT P L o.op=true)(hp:∀ x,o.op=.panic x->ρ x≠.nilIface)(hz:∀ c,o.op=.defer c->Z=false)(hz':∀ c b,o.op=.select c b->Z=false)(Zq:∀ c,o.op=.call c->c.callee=.builtin .recover->Z=false):SR P R L (NR R L Z) (execOp ρ o) (execOp ρ' o):=by
 unfold execOp;dsimp only
 cases hop:o.op with
 | move x=>rw[hop] at ho;exact ak (.value (hρ x ho))
 | assign x=>rw[hop] at ho;exact ak (.value (hρ x ho))
 | pick a b c =>
  rw[hop] at ho;simp only[bT,fE] at ho;refine aJ (zn (hρ a ho.1.1)) fun t=>ak (.value ?_)
  split
  .exact hρ b ho.1.2
  .exact hρ c ho.2
 | alloc t=>rw[hop] at ho;exact iT (X4 ho)
 | box t x=>rw[hop] at ho;exact iT (ad1 (hρ x ho))
 | build t ps =>
  rw[hop] at ho;simp only[bT,fE] at ho;exact iT (V4 ho.1 (PL.ops hρ ho.2))
 | buildSlice t n ps =>
  rw[hop] at ho;simp only[bT,fE] at ho
  cases ht:P.underlying t with
  | none=>rw[ht] at ho;exact absurd ho.2 (by simp)
  | some d =>
   rw[ht] at ho
   cases d <;> first|exact iT (FJ ht ho.2 n (PL.ops hρ ho.1))|exact absurd ho.2 (by simp)
 | load t a=>rw[hop] at ho;exact iT (Sl (hρ a ho))
 | store t a x =>
  rw[hop] at ho;simp only[bT,fE] at ho;exact aex (PD (hρ a ho.1) (hρ x ho.2))
 | nilCheck x =>
  rw[hop] at ho;have hv:=hρ x ho;dsimp only
  generalize ρ x=v at hv;generalize ρ' x=w at hv
  cases hv with
  | gV=>exact jK rfl
  | nilIface=>exact jK rfl
  | nilFunc=>exact jK rfl
  | bool b=>exact ak (.value (.bool b))
  | int k n=>exact ak (.value (.int k n))
  | string s=>exact ak (.value (.string s))
  | ptr a b h=>exact ak (.value (.ptr a b h))
  | iq n c=>exact ak (.value (.iq n c))
  | slice a b n c h=>exact ak (.value (.slice a b n c h))
  | fV=>exact ak (.value .fV)
  | map r s h=>exact ak (.value (.map r s h))
  | chan r=>exact ak (.value (.chan r))
  | func f hf x c y d hx hxv hc hcv=>exact ak (.value (.func f hf x c y d hx hxv hc hcv))
  | iface t v w h=>exact ak (.value (.iface t v w h))
  | tJ t a ht ha=>exact ak (.value (.tJ t a ht ha))
  | agg x y hx hv=>exact ak (.value (.agg x y hx hv))
  | tuple x y hx hv=>exact ak (.value (.tuple x y hx hv))
 | binOp b t x y t2 =>
  rw[hop] at ho;simp only[bT,fE] at ho;exact iT (aJ (PW _ _ _ _ (hρ x ho.1) (hρ y ho.2)) fun _=>XM hR _ _ (fun _=>.inr hO) (hρ x ho.1) (hρ y ho.2))
 | unOp u t x=>rw[hop] at ho;exact iT (Wz _ (hρ x ho))
 | convert s d x =>
  rw[hop] at ho;simp only[bT,fE] at ho;exact iT (OG ho.1 (hρ x ho.2))
 | sliceToArrayPointer t x=>rw[hop] at ho;exact iT (N7 (hρ x ho))
 | makeInterface t x=>rw[hop] at ho;exact iT (yK _ (hρ x ho))
 | makeFunc fn a b =>
  rw[hop] at ho;simp only[bT,fE] at ho
  cases fn with
  | func f =>
   have h1:=AV.ops (R:=R) hρ ho.1.1;have h2:=AV.ops (R:=R) hρ ho.1.2;exact iT (ak (.func f ho.2 _ _ _ _ h1.1 h1.2 h2.1 h2.2))
  | _=>exact absurd ho.2 (by simp)
 | makeMap t r=>cases r with
  | none=>exact iT (N9 t)
  | some r=>rw[hop] at ho;cases ho
 | makeSlice t n c =>
  rw[hop] at ho;simp only[bT,fE] at ho
  cases ht:P.underlying t with
  | none=>rw[ht] at ho;exact absurd ho.2 (by simp)
  | some d =>
   rw[ht] at ho
   cases d <;> first|exact iT (Ib ht ho.2 (hρ n ho.1.1) (hρ c ho.1.2))|exact absurd ho.2 (by simp)
 | slice t x lo hi mx =>
  rw[hop] at ho;simp only[bT,fE] at ho;exact iT (Ow (hρ x ho.1.1.1) (VO.ops hρ ho.1.1.2) (VO.ops hρ ho.1.2) (VO.ops hρ ho.2))
 | fieldAddr t x f=>rw[hop] at ho;exact iT (Nc (hρ x ho) f)
 | field t x f=>rw[hop] at ho;exact iT (VY (hρ x ho) f)
 | indexAddr t x i =>
  rw[hop] at ho;simp only[bT,fE] at ho;exact iT (O4 (hρ x ho.1) (hρ i ho.2))
 | index t x i =>
  rw[hop] at ho;simp only[bT,fE] at ho;exact iT (Wt (hρ x ho.1) (hρ i ho.2))
 | lookup t x i c =>
  rw[hop] at ho;simp only[bT,fE] at ho
  cases ht:P.underlying t with
  | none=>rw[ht] at ho;exact absurd ho.2 (by simp)
  | some d =>
   rw[ht] at ho
   cases d with
   | map kt et =>
    have h2:=ho.2;simp only[fE] at h2;exact iT (Sb hR ht h2.1 h2.2 (hρ x ho.1.1) (hρ i ho.1.2) c)
   | _=>exact absurd ho.2 (by simp)
 | mapUpdate t m k x =>
  rw[hop] at ho;simp only[bT,fE] at ho
  cases ht:P.underlying t with
  | none=>rw[ht] at ho;exact absurd ho.2 (by simp)
  | some d =>
   rw[ht] at ho
   cases d <;> first|exact aex (I9 hR ht ho.2 (hρ m ho.1.1.1) (hρ k ho.1.1.2) (hρ x ho.1.2))|exact absurd ho.2 (by simp)
 | range t x=>rw[hop] at ho;exact iT (Ze (hρ x ho))
 | next x s=>rw[hop] at ho;exact iT (abD (hρ x ho) s _)
 | entry x=>rw[hop] at ho;exact iT (Vz (hρ x ho))
 | typeAssert x t a ok =>
  rw[hop] at ho;simp only[bT,fE] at ho;obtain⟨⟨⟨rfl,h1⟩,h2⟩,h3⟩:=ho;exact iT (Fw (hρ x h1) t (by simpa using h3) h2)
 | extract x i=>rw[hop] at ho;exact iT (NH (hρ x ho) i)
 | panic x=>rw[hop] at ho;exact iT (OD (hρ x ho) (hp x hop))
 | call c=>rw[hop] at ho;exact aaU hR hL hρ ho (Zq c hop)
 | defer c=>rw[hop] at ho;exact aM (Od hρ ho) fun a b hab=>ak (.defer (hz c hop) hab)
 | select cs b =>
  rw[hop] at ho;have h:=z8 (P:=P) (R:=R) hρ (l:=cs.toList) (by simpa[bT] using ho);refine aM (C:=CV R L) ?_ fun x y hxy=>ak (.comm (hz' cs b hop) hxy _ _)
  rw[qaP,qaP];refine Hw h fun a b hab=>⟨by simpa using hab.1,fun i c d hc hd=>hab.2 i c d (by simpa using hc) (by simpa using hd)⟩
 | _=>rw[hop] at ho;cases ho
end
end Sr
end
section
open Go.Conc
namespace Cc
def GU:Halt->Prop
 | .panic _|.stuck _|.unsupported _=>True
 | _=>False
def Mk0(m:Mark):Prop:=m=.noRoom\/∃ f,m=.extern f
def ok{α:Type}(P:Program)(C:α->Prop):Sem α->Prop
 | .pure a=>C a
 | .load m _ k=>m=.plain/\∀ v,ok P C (k v)
 | .store m _ _ k=>m=.plain/\ok P C k
 | .new _ k=>∀ n,ok P C (k n)
 | .shape _ k=>∀ s,ok P C (k s)
 | .freeze _ _ k=>ok P C k
 | .frozen _ k=>∀ b,ok P C (k b)
 | .getObj _ k=>∀ o,ok P C (k o)
 | .setObj _ _ _=>False
 | .choose _ k=>∀ n,ok P C (k n)
 | .sys _ _=>False
 | .program k=>ok P C (k P)
 | .mark m k=>Mk0 m/\ok P C k
 | .halt h=>GU h
theorem kT{α:Type}{P:Program}{C D:α->Prop}(h:∀ a,C a->D a):∀ {s:Sem α},ok P C s->ok P D s
 | .pure a,hs=>h a hs
 | .load m a k,hs=>⟨hs.1,fun v=>kT h (hs.2 v)⟩
 | .store m a v k,hs=>⟨hs.1,kT h hs.2⟩
 | .new o k,hs=>fun n=>kT h (hs n)
 | .shape r k,hs=>fun s=>kT h (hs s)
 | .freeze a n k,hs=>kT (s:=k) h hs
 | .frozen a k,hs=>fun b=>kT h (hs b)
 | .getObj r k,hs=>fun o=>kT h (hs o)
 | .choose q k,hs=>fun n=>kT h (hs n)
 | .program k,hs=>kT (s:=k P) h hs
 | .mark m k,hs=>⟨hs.1,kT h hs.2⟩
 | .halt h',hs=>hs
theorem d9{α β:Type}{P:Program}{C:α->Prop}{D:β->Prop}{f:α->Sem β}(hf:∀ a,C a->ok P D (f a)):∀ {s:Sem α},ok P C s->ok P D (s.bind f)
 | .pure a,hs=>hf a hs
 | .load m a k,hs=>⟨hs.1,fun v=>d9 hf (hs.2 v)⟩
 | .store m a v k,hs=>⟨hs.1,d9 hf hs.2⟩
 | .new o k,hs=>fun n=>d9 hf (hs n)
 | .shape r k,hs=>fun s=>d9 hf (hs s)
 | .freeze a n k,hs=>d9 (s:=k) hf hs
 | .frozen a k,hs=>fun b=>d9 hf (hs b)
 | .getObj r k,hs=>fun o=>d9 hf (hs o)
 | .choose q k,hs=>fun n=>d9 hf (hs n)
 | .program k,hs=>d9 (s:=k P) hf hs
 | .mark m k,hs=>⟨hs.1,d9 hf hs.2⟩
 | .halt h',hs=>hs
def tp(w:World)(τ:Nat->Question->Nat)(d:Nat):World:={w with tape:=τ,drawn:=d}
theorem V8(w:World)(τ σ:Nat->Question->Nat)(d e:Nat):tp (tp w τ d) σ e=tp w σ e:=rfl
theorem aa0(w:World):tp w w.tape w.drawn=w:=rfl
def tpR{α:Type}(τ:Nat->Question->Nat)(d:Nat):Result α->Result α
 | .ok a w=>.ok a (tp w τ d)
 | .halt h w=>.halt h (tp w τ d)
def rw{α:Type}:Result α->World
 | .ok _ w=>w
 | .halt _ w=>w
def Low(n:Nat)(e:Event):Prop:=(∃ a,e.loc=.cell a/\a.block<n/\e.sync=false)\/(∃ r,e.loc=.obj r/\r<n/\e.write=false)\/e.loc=.mark .noRoom
def EX(n:Nat)(e:Event):Prop:=Low n e\/∃ f,e.loc=.mark (.extern f)
theorem A9{w:World}{a:Addr}{v:Value}(h:w.cell? a=some v):a.block<w.heap.size:=by
 unfold World.cell? at h;split at h
 .rename_i c e f hc;exact(fT.1 hc).1
 .cases h
theorem eD(w:World)(a:Addr)(v:Value):(w.setCell a v).heap.size=w.heap.size:=by simp[World.setCell]
theorem iD(w:World)(a:Addr)(n:Nat):(w.freeze a n).heap.size=w.heap.size:=by unfold World.freeze;split <;> simp
theorem oh(w:World)(a:Addr)(what:String):GU (w.noCell a what):=by
 unfold World.noCell;split <;> trivial
theorem Qp{P:Program}{w:World}{at_ k:Addr}{u:TypeId}{b:Bool}{r:Array Value×TypeId×(Nat×Nat)×Nat×Value×List (Nat×Nat×List UInt8)}(h:w.seen P at_ u k b=.ok r):at_.block<w.heap.size:=by
 apply qba;intro hn;have h0:w.heap[at_.block]? = none:=MW (by omega);unfold World.seen at h;simp only[h0,bind,Except.bind,pure,Except.pure,throw,throwThe,MonadExceptOf.throw] at h
 repeat' (first|(cases h;done)|split at h)
theorem JH{P:Program}{w:World}{at_ k:Addr}{u:TypeId}{b:Bool}{v:Value}{l:List Addr}(h:w.viewLoad P at_ u k b=.ok (v,l)):∀ a∈l,a.block<w.heap.size:=by
 unfold World.viewLoad at h
 cases hs:w.seen P at_ u k b with
 | error e=>rw[hs] at h;cases h
 | ok r =>
  have hlt:=Qp hs;rw[hs] at h;obtain⟨_,_,_,first,like,cells⟩:=r;simp only[bind,Except.bind,pure,Except.pure,throw,throwThe,MonadExceptOf.throw] at h;split at h
  .simp only[qcq,MV] at h;obtain⟨_,rfl⟩:=h;intro a ha;obtain⟨c,_,rfl⟩:=ZW.1 ha;exact hlt
  .cases h
theorem yu(P:Program)(w:World)(at_ k:Addr)(u:TypeId)(b:Bool)(v:Value)(τ:Nat->Question->Nat)(d:Nat):(tp w τ d).viewStore P at_ u k v b=(w.viewStore P at_ u k v b).map fun x=>(tp x.1 τ d,x.2):=by
 have hs':(tp w τ d).seen P at_ u k b=w.seen P at_ u k b:=rfl;unfold World.viewStore;rw[hs'];simp only[bind,Except.bind,pure,Except.pure,throw,throwThe,MonadExceptOf.throw,qb1,jI,if_false]
 repeat' (first|rfl|split)
theorem uJ{P:Program}{w w':World}{at_ k:Addr}{u:TypeId}{b:Bool}{v:Value}{l:List Addr}(h:w.viewStore P at_ u k v b=.ok (w',l)):(∀ a∈l,a.block<w.heap.size)/\w'.heap.size=w.heap.size/\w'.tape=w.tape/\w'.drawn=w.drawn/\∀ τ d,(tp w τ d).viewStore P at_ u k v b=.ok (tp w' τ d,l):=by
 have h0:=h;unfold World.viewStore at h
 cases ht:tight P P.depth u with
 | false=>rw[ht] at h;simp[bind,Except.bind,throw,throwThe,MonadExceptOf.throw] at h
 | true =>
  cases hs:w.seen P at_ u k b with
  | error e =>
   rw[ht,hs] at h;simp[bind,Except.bind,pure,Except.pure,throw,throwThe,MonadExceptOf.throw] at h
  | ok r =>
   have hlt:=Qp hs;rw[ht,hs] at h;obtain⟨c,e,frozen,first,like,cells⟩:=r;have h2:=h;simp only[bind,Except.bind,pure,Except.pure,throw,throwThe,MonadExceptOf.throw,qb1,jI,if_false] at h2;refine(fun hx:_/\_/\_/\_=>⟨hx.1,hx.2.1,hx.2.2.1,hx.2.2.2,fun τ d=>by rw[yu,h0];rfl⟩) ?_;clear h h0 hs
   repeat' (first|(cases h2;done)|split at h2)
   all_goals
    simp only[qcq,MV] at h2;obtain⟨rfl,rfl⟩:=h2;refine⟨fun a ha=>?_,by simp,rfl,rfl⟩;obtain⟨c,_,rfl⟩:=ZW.1 ha;exact hlt
theorem YC(P:Program)(w:World)(a:Addr)(b:Bool):(∃ v l,w.farLoad P a b=.ok (v,l)/\(∀ x∈l,x.block<w.heap.size)/\∀ τ d,(tp w τ d).farLoad P a b=.ok (v,l)) \/ (∃ h,w.farLoad P a b=.error h/\GU h/\∀ τ d,(tp w τ d).farLoad P a b=.error h):=by
 unfold World.farLoad
 cases hb:w.heap[a.block]? with
 | none=>exact .inr ⟨_,rfl,oh _ _ _,fun τ d=>by rw[show(tp w τ d).heap[a.block]? = none from hb];rfl⟩
 | some o =>
  cases o with
  | view at_ u =>
   cases hl:w.viewLoad P at_ u a b with
   | ok r=>exact .inl ⟨r.1,r.2,by simp only[hl],JH hl,fun τ d=>by
     have h1:(tp w τ d).heap[a.block]? = some (.view at_ u):=hb;have h2:(tp w τ d).viewLoad P at_ u a b=.ok r:=hl;simp only[h1,h2]⟩
   | error e=>exact .inr ⟨.unsupported (.unsafePointer e),by simp only[hl],trivial,fun τ d=>by
     have h1:(tp w τ d).heap[a.block]? = some (.view at_ u):=hb;have h2:(tp w τ d).viewLoad P at_ u a b=.error e:=hl;simp only[h1,h2]⟩
  | _=>exact .inr ⟨_,rfl,oh _ _ _,fun τ d=>by
    have h1:=show(tp w τ d).heap[a.block]? = _ from hb
    simp only[h1];rfl⟩
theorem Uy(P:Program)(w:World)(a:Addr)(v:Value)(b:Bool):(∃ w' l,w.farStore P a v b=.ok (w',l)/\(∀ x∈l,x.block<w.heap.size)/\w'.heap.size=w.heap.size/\w'.tape=w.tape/\w'.drawn=w.drawn/\∀ τ d,(tp w τ d).farStore P a v b=.ok (tp w' τ d,l)) \/ (∃ h,w.farStore P a v b=.error h/\GU h/\∀ τ d,(tp w τ d).farStore P a v b=.error h):=by
 unfold World.farStore
 cases hb:w.heap[a.block]? with
 | none=>exact .inr ⟨_,rfl,oh _ _ _,fun τ d=>by rw[show(tp w τ d).heap[a.block]? = none from hb];rfl⟩
 | some o =>
  cases o with
  | view at_ u =>
   cases hl:w.viewStore P at_ u a v b with
   | ok r =>
    obtain⟨h1,h2,h3,h4,h5⟩:=uJ (w':=r.1) (l:=r.2) hl;exact .inl ⟨r.1,r.2,by simp only[hl],h1,h2,h3,h4,fun τ d=>by
     have e1:(tp w τ d).heap[a.block]? = some (.view at_ u):=hb;simp only[e1,h5]⟩
   | error e=>exact .inr ⟨.unsupported (.unsafePointer e),by simp only[hl],trivial,fun τ d=>by
     have e1:(tp w τ d).heap[a.block]? = some (.view at_ u):=hb;have e2:(tp w τ d).viewStore P at_ u a v b=.error e:=by
      rw[yu,hl];rfl
     simp only[e1,e2]⟩
  | _=>exact .inr ⟨_,rfl,oh _ _ _,fun τ d=>by
    have h1:=show(tp w τ d).heap[a.block]? = _ from hb
    simp only[h1];rfl⟩
structure Ran{α:Type}(P:Program)(C:α->Prop)(s:Sem α)(w:World)(es:Array Event)(n:Nat)(r:Result α)(es':Array Event):Prop where
 eq:s.runT P w es=(r,es')
 drawn:(rw r).drawn=w.drawn+n
 tape:(rw r).tape=w.tape
 nat:∀ τ d,(∀ i,i<n->τ (d+i)=w.tape (w.drawn+i))->s.runT P (tp w τ d) es=(tpR τ (d+n) r,es')
 size:w.heap.size<=(rw r).heap.size
 low:∃ u,es'=es++u/\∀ e∈u,EX (rw r).heap.size e
 good:∀ a w',r=.ok a w'->C a
 calm:∀ h w',r=.halt h w'->GU h
theorem Ran.push{α:Type}{P:Program}{C:α->Prop}{s:Sem α}{w:World}{es:Array Event}{e:Event}{r:Result α}{es':Array Event}(he:EX (rw r).heap.size e)(h:∃ u,es'=es.push e++u/\∀ x∈u,EX (rw r).heap.size x):∃ u,es'=es++u/\∀ x∈u,EX (rw r).heap.size x:=by
 obtain⟨u,h1,h2⟩:=h;refine⟨#[e]++u,by rw[h1];apply qcy;simp,fun x hx=>?_⟩;rcases Array.mem_append.1 hx with hx|hx
 .have:x=e:=by simpa using hx
  rw[this];exact he
 .exact h2 x hx
theorem Rb{n:Nat}{es x es':Array Event}(hx:∀ e∈x,EX n e)(h:∃ u,es'=es++x++u/\∀ e∈u,EX n e):∃ u,es'=es++u/\∀ e∈u,EX n e:=by
 obtain⟨u,h1,h2⟩:=h;refine⟨x++u,by rw[h1,qbF],fun e he=>?_⟩;rcases Array.mem_append.1 he with he|he
 .exact hx e he
 .exact h2 e he
theorem nT{α:Type}{P:Program}{C:α->Prop}{s:Sem α}{w:World}{es:Array Event}{h:Halt}(hh:GU h)(e:∀ τ d,s.runT P (tp w τ d) es=(.halt h (tp w τ d),es)):∃ n r es',Ran P C s w es n r es' :=⟨0,.halt h w,es,e w.tape w.drawn,rfl,rfl,fun τ d _=>e τ d,aY _,⟨#[],by simp,by simp⟩,fun a w' h=>(by cases h),fun h' w' e=>(by cases e;exact hh)⟩
theorem dZ{α:Type}{P:Program}{C:α->Prop}:∀ {s:Sem α},ok P C s->∀ (w:World)(es:Array Event),∃ n r es',Ran P C s w es n r es'
 | .pure a,hs,w,es=>⟨0,.ok a w,es,rfl,rfl,rfl,fun τ d _=>rfl,aY _,⟨#[],by simp,by simp⟩,fun b w' e=>by cases e;exact hs,fun h w' e=>by cases e⟩
 | .load m a k,hs,w,es=>by
  cases hc:w.cell? a with
  | none =>
   rcases YC P w a (m==.atomic) with⟨v,l,e1,e2,e3⟩|⟨hh,e1,e2,e3⟩
   .obtain⟨n,r,es',h⟩:=dZ (hs.2 v) w (es++l.toArray.map (⟨.cell ·,false,m==.atomic⟩));have e0:∀ τ d,(Sem.load m a k).runT P (tp w τ d) es=(k v).runT P (tp w τ d) (es++l.toArray.map (⟨.cell ·,false,m==.atomic⟩)):=fun τ d=>by
     have h1:(tp w τ d).cell? a=none:=hc;simp only[Sem.runT,h1,e3]
    exact⟨n,r,es',(e0 w.tape w.drawn).trans h.eq,h.drawn,h.tape,fun τ d ht=>(e0 τ d).trans (h.nat τ d ht),h.size,Rb (fun x hx=>by
     obtain⟨y,hy,rfl⟩:=Array.mem_map.1 hx;exact .inl (.inl ⟨y,rfl,CW (e2 y (by simpa using hy)) h.size,by rw[hs.1];rfl⟩)) h.low,h.good,h.calm⟩
   .refine nT (h:=hh) e2 fun τ d=>?_
    have h1:(tp w τ d).cell? a=none:=hc;simp only[Sem.runT,h1,e3]
  | some v =>
   obtain⟨n,r,es',h⟩:=dZ (hs.2 v) w (es.push ⟨.cell a,false,m==.atomic⟩);have e0:∀ τ d,(Sem.load m a k).runT P (tp w τ d) es=(k v).runT P (tp w τ d) (es.push ⟨.cell a,false,m==.atomic⟩):=fun τ d=>by
    have h1:(tp w τ d).cell? a=some v:=hc;simp only[Sem.runT,h1]
   refine⟨n,r,es',(e0 w.tape w.drawn).trans h.eq,h.drawn,h.tape,fun τ d ht=>(e0 τ d).trans (h.nat τ d ht),h.size,Ran.push (P:=P) (C:=C) (s:=k v) (w:=w) (.inl (.inl ⟨a,rfl,CW (A9 hc) h.size,by rw[hs.1];rfl⟩)) h.low,h.good,h.calm⟩
 | .store m a v k,hs,w,es=>by
  by_cases hagg:(∃ x,v=.agg x)\/∃ x,v=.tuple x
  .refine nT (h:=.stuck "store: not the value of one cell") trivial fun τ d=>?_
   rcases hagg with⟨x,rfl⟩|⟨x,rfl⟩ <;> simp only[Sem.runT]
  .have e1:∀ w:World,(Sem.store m a v k).runT P w es=(match w.cell? a with
     | some _=>if w.frozen? a then(.halt (.unsupported (.unsafePointer "a write to bytes that a string shares")) w,es) else k.runT P (w.setCell a v) (es.push ⟨.cell a,true,m==.atomic⟩)
     | none=>match w.farStore P a v (m==.atomic) with
      | .ok (w,touched)=>k.runT P w (es++touched.toArray.map (⟨.cell ·,true,m==.atomic⟩))
      | .error h=>(.halt h w,es)):=fun w=>by
    cases v <;> first|rfl|exact absurd (.inl ⟨_,rfl⟩) hagg|exact absurd (.inr ⟨_,rfl⟩) hagg
   cases hc:w.cell? a with
   | none =>
    rcases Uy P w a v (m==.atomic) with⟨w',l,e2,e3,e4,e5,e6,e7⟩|⟨hh,e2,e3,e4⟩
    .obtain⟨n,r,es',h⟩:=dZ hs.2 w' (es++l.toArray.map (⟨.cell ·,true,m==.atomic⟩));have e0:∀ τ d,(Sem.store m a v k).runT P (tp w τ d) es=k.runT P (tp w' τ d) (es++l.toArray.map (⟨.cell ·,true,m==.atomic⟩)):=fun τ d=>by
      have h1:(tp w τ d).cell? a=none:=hc;rw[e1];simp only[h1,e7]
     have hsz:w.heap.size<=(rw r).heap.size:=by have:=h.size;rw[e4] at this;exact this
     have hw:tp w' w.tape w.drawn=w':=by rw[<-e5,<-e6];rfl
     refine⟨n,r,es',(e0 w.tape w.drawn).trans (by rw[hw];exact h.eq),by rw[h.drawn,e6],h.tape.trans e5,fun τ d ht=>(e0 τ d).trans (h.nat τ d (by rw[e5,e6];exact ht)),hsz,Rb (fun x hx=>by
      obtain⟨y,hy,rfl⟩:=Array.mem_map.1 hx;exact .inl (.inl ⟨y,rfl,CW (e3 y (by simpa using hy)) hsz,by rw[hs.1];rfl⟩)) h.low,h.good,h.calm⟩
    .refine nT (h:=hh) e3 fun τ d=>?_
     have h1:(tp w τ d).cell? a=none:=hc;rw[e1];simp only[h1,e4]
   | some u =>
    by_cases hf:w.frozen? a=true
    .refine nT (h:=.unsupported (.unsafePointer "a write to bytes that a string shares")) trivial fun τ d=>?_
     have h1:(tp w τ d).cell? a=some u:=hc;have h2:(tp w τ d).frozen? a=true:=hf;rw[e1];simp only[h1,h2,if_true]
    .obtain⟨n,r,es',h⟩:=dZ hs.2 (w.setCell a v) (es.push ⟨.cell a,true,m==.atomic⟩);have e0:∀ τ d,(Sem.store m a v k).runT P (tp w τ d) es=k.runT P (tp (w.setCell a v) τ d) (es.push ⟨.cell a,true,m==.atomic⟩):=fun τ d=>by
      have h1:(tp w τ d).cell? a=some u:=hc;have h2:(tp w τ d).frozen? a=false:=by have h3:w.frozen? a=false:=(by simpa using hf);exact h3
      rw[e1];simp only[h1,h2,jI,if_false];rfl
     have hsz:w.heap.size<=(rw r).heap.size:=by have:=h.size;rw[eD] at this;exact this
     refine⟨n,r,es',(e0 w.tape w.drawn).trans h.eq,h.drawn,h.tape,fun τ d ht=>(e0 τ d).trans (h.nat τ d ht),hsz,Ran.push (P:=P) (C:=C) (s:=k) (w:=w) (.inl (.inl ⟨a,rfl,CW (A9 hc) hsz,by rw[hs.1];rfl⟩)) h.low,h.good,h.calm⟩
 | .new o k,hs,w,es=>by
  obtain⟨n,r,es',h⟩:=dZ (hs w.heap.size) {w with heap:=w.heap.push o} es;exact⟨n,r,es',h.eq,h.drawn,h.tape,fun τ d ht=>h.nat τ d ht,tT (by simp) h.size,h.low,h.good,h.calm⟩
 | .shape a k,hs,w,es=>by
  obtain⟨n,r,es',h⟩:=dZ (hs (w.shape? a)) w es;exact⟨n,r,es',h.eq,h.drawn,h.tape,fun τ d ht=>h.nat τ d ht,h.size,h.low,h.good,h.calm⟩
 | .freeze a m k,hs,w,es=>by
  obtain⟨n,r,es',h⟩:=dZ (s:=k) hs (w.freeze a m) es;have e1:∀ τ d,(tp w τ d).freeze a m=tp (w.freeze a m) τ d:=fun τ d=>by unfold World.freeze;split <;> rfl
  have e2:(w.freeze a m).drawn=w.drawn:=by unfold World.freeze;split <;> rfl
  have e3:(w.freeze a m).tape=w.tape:=by unfold World.freeze;split <;> rfl
  refine⟨n,r,es',h.eq,by rw[h.drawn,e2],h.tape.trans e3,fun τ d ht=>?_,by have:=h.size;rw[iD] at this;exact this,h.low,h.good,h.calm⟩;show k.runT P ((tp w τ d).freeze a m) es=_;rw[e1];exact h.nat τ d (by rw[e2,e3];exact ht)
 | .frozen a k,hs,w,es=>by
  obtain⟨n,r,es',h⟩:=dZ (hs (w.frozen? a)) w es;exact⟨n,r,es',h.eq,h.drawn,h.tape,fun τ d ht=>h.nat τ d ht,h.size,h.low,h.good,h.calm⟩
 | .getObj a k,hs,w,es=>by
  cases hc:w.heap[a]? with
  | none =>
   refine nT (h:=.stuck "getObj: no such block") trivial fun τ d=>?_
   have h1:(tp w τ d).heap[a]? = none:=hc;simp only[Sem.runT,h1]
  | some o =>
   by_cases hcell:∃ c t f,o=.cells c t f
   .obtain⟨c,t,f,rfl⟩:=hcell;refine nT (h:=.stuck "getObj: a row of cells") trivial fun τ d=>?_
    have h1:(tp w τ d).heap[a]? = some (.cells c t f):=hc;simp only[Sem.runT,h1]
   .obtain⟨n,r,es',h⟩:=dZ (hs o) w (es.push ⟨.obj a,false,o.isChan⟩);have e0:∀ τ d,(Sem.getObj a k).runT P (tp w τ d) es=(k o).runT P (tp w τ d) (es.push ⟨.obj a,false,o.isChan⟩):=fun τ d=>by
     have h1:(tp w τ d).heap[a]? = some o:=hc;simp only[Sem.runT,h1];split
     .rename_i x y z hx;cases hx;exact absurd ⟨_,_,_,rfl⟩ hcell
     .rename_i x hx hy;cases hy;rfl
     .rename_i hx;cases hx
    refine⟨n,r,es',(e0 w.tape w.drawn).trans h.eq,h.drawn,h.tape,fun τ d ht=>(e0 τ d).trans (h.nat τ d ht),h.size,Ran.push (P:=P) (C:=C) (s:=k o) (w:=w) (.inl (.inr (.inl ⟨a,rfl,CW (fT.1 hc).1 h.size,rfl⟩))) h.low,h.good,h.calm⟩
 | .choose q k,hs,w,es=>by
  by_cases hf:q.forced=true
  .obtain⟨n,r,es',h⟩:=dZ (hs 0) w es;have e0:∀ τ d,(Sem.choose q k).runT P (tp w τ d) es=(k 0).runT P (tp w τ d) es:=fun τ d=>by simp only[Sem.runT,hf,if_true]
   exact⟨n,r,es',(e0 w.tape w.drawn).trans h.eq,h.drawn,h.tape,fun τ d ht=>(e0 τ d).trans (h.nat τ d ht),h.size,h.low,h.good,h.calm⟩
  .obtain⟨n,r,es',h⟩:=dZ (hs (q.cut (w.tape w.drawn q))) {w with drawn:=w.drawn+1} es;have e0:∀ τ d,τ d=w.tape w.drawn->(Sem.choose q k).runT P (tp w τ d) es=(k (q.cut (w.tape w.drawn q))).runT P (tp {w with drawn:=w.drawn+1} τ (d+1)) es:=fun τ d ht=>by
    have h1:(tp w τ d).tape (tp w τ d).drawn=w.tape w.drawn:=ht;simp only[Sem.runT,hf,if_false,jI,h1];rfl
   refine⟨n+1,r,es',(e0 w.tape w.drawn rfl).trans h.eq,by rw[h.drawn];show w.drawn+1+n=_;omega,h.tape,fun τ d ht=>?_,h.size,h.low,h.good,h.calm⟩;rw[e0 τ d (ht 0 (by omega)),h.nat τ (d+1) (fun i hi=>by
    have:=ht (i+1) (by omega);rw[show d+1+i=d+(i+1) by omega,this];show w.tape _=w.tape (w.drawn+1+i);rw[show w.drawn+1+i=w.drawn+(i+1) by omega])]
   rw[show d+1+n=d+(n+1) by omega]
 | .program k,hs,w,es=>by
  obtain⟨n,r,es',h⟩:=dZ (s:=k P) hs w es;exact⟨n,r,es',h.eq,h.drawn,h.tape,fun τ d ht=>h.nat τ d ht,h.size,h.low,h.good,h.calm⟩
 | .mark m k,hs,w,es=>by
  obtain⟨n,r,es',h⟩:=dZ hs.2 w (es.push ⟨.mark m,false,true⟩);exact⟨n,r,es',h.eq,h.drawn,h.tape,fun τ d ht=>h.nat τ d ht,h.size,Ran.push (P:=P) (C:=C) (s:=k) (w:=w) (hs.1.elim (fun e=>.inl (.inr (.inr (by rw[e])))) fun⟨f,e⟩=>.inr ⟨f,by rw[e]⟩) h.low,h.good,h.calm⟩
 | .halt h',hs,w,es=>nT hs fun τ d=>rfl
end Cc
end
end Go.Proofs.YtdbgldieilgnmaaGreatDoor
