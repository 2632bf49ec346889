/- J04 -/
import Derived.Test.YtdbgldieilgnmaaGreatDoorJ03
set_option linter.unusedVariables false
set_option linter.unusedSimpArgs false
set_option maxHeartbeats 8000000
set_option maxRecDepth 100000
namespace Go.Proofs.YtdbgldieilgnmaaGreatDoor
open Go.Conc
namespace Sr
inductive OO(R:Nat->Nat->Prop)(L:FuncId->Bool):Option Obj->Option Obj->Prop
 | none:OO R L none none
 | some {o o':Obj} (h:OR R L o o'):OO R L (some o) (some o')
structure HR(R:Nat->Nat->Prop)(L:FuncId->Bool)(h h':Array Obj):Prop where
 rel:∀ b b',R b b'->OO R L h[b]? h'[b']?
 opq:∀ b:Nat,L (2*b+1000000001)=true->∃ c e,h[b]? = some (.cells c e (0,0))/\h'[b]? = some (.cells c e (0,0))
 Af:∀ a b:Nat,R a b->L (2*a+1000000001)=false/\L (2*b+1000000001)=false
instance {R:Nat->Nat->Prop}{L:FuncId->Bool}{h h':Array Obj}:CoeFun (HR R L h h') (fun _=>∀ b b',R b b'->OO R L h[b]? h'[b']?):=⟨HR.rel⟩
theorem HR.ne{R:Nat->Nat->Prop}{L:FuncId->Bool}{h h':Array Obj}(hh:HR R L h h'){a b c:Nat}(hab:R a b)(hc:L (2*c+1000000001)=true):a≠c/\b≠c:=by
 have:=hh.Af a b hab;exact⟨fun e=>by rw[e,hc] at this;exact absurd this.1 (by simp),fun e=>by rw[e,hc] at this;exact absurd this.2 (by simp)⟩
def rw{α:Type}:Result α->World
 | .ok _ w=>w
 | .halt _ w=>w
section
variable {P:Program}{R R':Nat->Nat->Prop}{L:FuncId->Bool}{α β:Type}{C:α->α->Prop}
theorem OO.mono(hR:∀ a b,R a b->R' a b){o o':Option Obj}(h:OO R L o o'):OO R' L o o':=by
 cases h with
 | none=>exact .none
 | some h=>exact .some (h.mono hR)
theorem HR.push(hR:PB R){h h':Array Obj}(hh:HR R L h h')(hn:R h.size h'.size){o o':Obj}(ho:OR R L o o'):HR R L (h.push o) (h'.push o'):=by
 refine⟨fun b b' hb=>?_,fun b hb=>?_,hh.Af⟩
 rotate_left
 .obtain⟨c,e,h1,h2⟩:=hh.opq b hb;have l1:=(fT.1 h1).1;have l2:=(fT.1 h2).1;exact⟨c,e,by rw[Qi,if_neg (by omega)];exact h1,by rw[Qi,if_neg (by omega)];exact h2⟩
 rw[Qi,Qi];by_cases e:b=h.size
 .subst e;rw[hR.fn _ _ _ hb hn,if_pos rfl,if_pos rfl];exact .some ho
 .have e':b'≠h'.size:=fun e'=>e (hR.inj _ _ _ (e' ▸ hb) hn)
  rw[if_neg e,if_neg e'];exact hh b b' hb
theorem HR.modify(hR:PB R){h h':Array Obj}(hh:HR R L h h'){r r':Nat}(hr:R r r'){f g:Obj->Obj}(hf:∀ o o',OR R L o o'->OR R L (f o) (g o')):HR R L (h.modify r f) (h'.modify r' g):=by
 refine⟨fun b b' hb=>?_,fun b hb=>?_,hh.Af⟩
 rotate_left
 .obtain⟨c,e,h1,h2⟩:=hh.opq b hb;obtain⟨n1,n2⟩:=hh.ne hr hb;exact⟨c,e,by rw[qa3,if_neg n1];exact h1,by rw[qa3,if_neg n2];exact h2⟩
 rw[qa3,qa3];have hbb:=hh b b' hb;by_cases e:r=b
 .subst e;rw[hR.fn _ _ _ hr hb,if_pos rfl,if_pos rfl]
  cases hx:h[r]? with
  | none =>
   rw[hx] at hbb
   cases hy:h'[b']? with
   | none=>exact .none
   | some o'=>rw[hy] at hbb;cases hbb
  | some o =>
   rw[hx] at hbb
   cases hy:h'[b']? with
   | none=>rw[hy] at hbb;cases hbb
   | some o' =>
    rw[hy] at hbb
    cases hbb with
    | some Fp=>exact .some (hf _ _ Fp)
 .have e':r'≠b':=fun e'=>e (hR.inj _ _ _ (e' ▸ hr) hb)
  rw[if_neg e,if_neg e'];exact hbb
theorem HR.set(hR:PB R){h h':Array Obj}(hh:HR R L h h'){r r':Nat}(hr:R r r'){o o':Obj}(ho:OR R L o o'):HR R L (h.setIfInBounds r o) (h'.setIfInBounds r' o'):=by
 refine⟨fun b b' hb=>?_,fun b hb=>?_,hh.Af⟩
 rotate_left
 .obtain⟨c,e,h1,h2⟩:=hh.opq b hb;obtain⟨n1,n2⟩:=hh.ne hr hb;exact⟨c,e,by rw[ow n1];exact h1,by rw[ow n2];exact h2⟩
 rw[qa2,qa2];have hbb:=hh b b' hb;by_cases e:r=b
 .subst e;rw[hR.fn _ _ _ hr hb,if_pos rfl,if_pos rfl];by_cases hx:r<h.size
  .rw[if_pos hx];by_cases hy:b'<h'.size
   .rw[if_pos hy];exact .some ho
   .rw[mJ hx,MW (by omega)] at hbb;cases hbb
  .rw[if_neg hx];by_cases hy:b'<h'.size
   .rw[mJ hy,MW (by omega)] at hbb;cases hbb
   .rw[if_neg hy];exact .none
 .have e':r'≠b':=fun e'=>e (hR.inj _ _ _ (e' ▸ hr) hb)
  rw[if_neg e,if_neg e'];exact hbb
theorem HR.lt{h h':Array Obj}(hh:HR R L h h'){b b':Nat}(hb:R b b'):b<h.size↔b'<h'.size:=by
 have:=hh b b' hb;by_cases hx:b<h.size
 .by_cases hy:b'<h'.size
  .simp[hx,hy]
  .rw[mJ hx,MW (by omega)] at this;cases this
 .by_cases hy:b'<h'.size
  .rw[mJ hy,MW (by omega)] at this;cases this
  .simp[hx,hy]
def Gt:Result α->Prop
 | .ok ..=>False
 | .halt h _=>Bd h
def Ev(R:Nat->Nat->Prop)(n:Nat)(e:Event):Prop:=(∃ a b,e.loc=.cell a/\R b a.block/\a.block<n/\e.sync=false)\/(∃ r b,e.loc=.obj r/\R b r/\r<n/\e.sync=false)\/(∃ m,e.loc=.mark m/\Mk m=true/\e.write=false/\e.sync=true)
inductive Vh(R:Nat->Nat->Prop)(n:Nat):Event->Event->Prop
 | cell (a b:Addr) (wr:Bool) (h:R a.block b.block) (hn:b.block<n):Vh R n ⟨.cell a,wr,false⟩ ⟨.cell b,wr,false⟩
 | obj (r r':Nat) (wr:Bool) (h:R r r') (hn:r'<n):Vh R n ⟨.obj r,wr,false⟩ ⟨.obj r',wr,false⟩
 | mark (m:Mark) (hm:Mk m=true):Vh R n ⟨.mark m,false,true⟩ ⟨.mark m,false,true⟩
theorem Vh.mono{n m:Nat}{e Θ:Event}(h:Vh R n e Θ)(hm:n<=m):Vh R m e Θ:=by
 cases h with
 | cell a b wr h hn=>exact .cell a b wr h (CW hn hm)
 | obj r r' wr h hn=>exact .obj r r' wr h (CW hn hm)
 | mark m hm=>exact .mark m hm
theorem Vh.ev{n:Nat}{e Θ:Event}(h:Vh R n e Θ):Ev R n Θ:=by
 cases h with
 | cell a b wr h hn=>exact .inl ⟨b,a.block,rfl,h,hn,rfl⟩
 | obj r r' wr h hn=>exact .inr (.inl ⟨r',r,rfl,h,hn,rfl⟩)
 | mark m hm=>exact .inr (.inr ⟨m,rfl,hm,rfl,rfl⟩)
def nP(R:Nat->Nat->Prop)(n:Nat)(g g' es es':Array Event):Prop:=∃ l:List (Event×Event),g'=g++(l.map (·.1)).toArray/\es'=es++(l.map (·.2)).toArray/\∀ p∈l,Vh R n p.1 p.2
theorem nP.nil{n:Nat}(g es:Array Event):nP R n g g es es:=⟨[],by simp,by simp,by simp⟩
theorem nP.one{n:Nat}(g es:Array Event){e Θ:Event}(h:Vh R n e Θ):nP R n g (g.push e) es (es.push Θ):=⟨[(e,Θ)],by apply qcy;simp,by apply qcy;simp,by simpa using h⟩
theorem nP.trans{n m:Nat}{g g' g'' es es' es'':Array Event}(h:nP R n g g' es es')(k:nP R m g' g'' es' es'')(hm:n<=m):nP R m g g'' es es'':=by
 obtain⟨l,rfl,rfl,hl⟩:=h;obtain⟨l',rfl,rfl,hl'⟩:=k;refine⟨l++l',by simp[qbF],by simp[qbF],fun p hp=>?_⟩;rcases UY.1 hp with h|h
 .exact(hl p h).mono hm
 .exact hl' p h
inductive RR(R:Nat->Nat->Prop)(L:FuncId->Bool)(C:α->α->Prop):Result α->Result α->Prop
 | ok {a b:α} {w ω:World} (h:C a b):RR R L C (.ok a w) (.ok b ω)
 | panic {v u:Value} {w ω:World} (h:VR R L v u):RR R L C (.halt (.panic v) w) (.halt (.panic u) ω)
structure Wd(R:Nat->Nat->Prop)(L:FuncId->Bool)(w ω w' ω':World)(g g' es η:Array Event):Prop where
 heap:HR R L w'.heap ω'.heap
 size:ω'.heap.size+w.heap.size=ω.heap.size+w'.heap.size
 grow:ω.heap.size<=ω'.heap.size
 world:ω'={ω with heap:=ω'.heap,drawn:=ω.drawn+(w'.drawn-w.drawn)}
 frame:∀ b,b<ω.heap.size->(∀ a,¬ R a b)->ω'.heap[b]? = ω.heap[b]?
 Dm:∀ a,a<w.heap.size->(∀ b,¬ R a b)->w'.heap[a]? = w.heap[a]?
 ev:nP R ω'.heap.size g g' es η
structure Sim(R:Nat->Nat->Prop)(L:FuncId->Bool)(C:α->α->Prop)(w ω:World)(r ι:Result α)(g g' es η:Array Event):Prop extends Wd R L w ω (rw r) (rw ι) g g' es η where
 res:RR R L C r ι
theorem VK(w:World):∀ (a:Ask β),(w.ask a).2.heap=w.heap/\w.drawn<=(w.ask a).2.drawn:=by
 intro a
 induction a generalizing w with
 | done a=>exact⟨rfl,aY _⟩
 | ask what range k ih =>
  unfold World.ask;dsimp only
  split
  .exact ih _ _
  .have:=ih ((Question.extern what range).cut (w.tape w.drawn (Question.extern what range))) {w with drawn:=w.drawn+1};exact⟨this.1,tT (Nat.le_succ _) this.2⟩
theorem Y2(w:World)(c:Sys):(w.sys c).2.heap=w.heap/\w.drawn<=(w.sys c).2.drawn:=by
 have h:=VK w (Kernel.perform c w.os);unfold World.sys;split
 .exact⟨rfl,aY _⟩
 .rename_i r os w' hx hy
  rw[hy] at h;exact h
def storeT(P:Program)(m:Mode)(a:Addr)(v:Value)(k:Sem α)(w:World)(es:Array Event):Result α×Array Event:=match w.cell? a with
 | some _=>if w.frozen? a then(Result.halt (.unsupported (.unsafePointer "a write to bytes that a string shares")) w,es) else k.runT P (w.setCell a v) (es.push ⟨.cell a,true,m==.atomic⟩)
 | none=>match w.farStore P a v (m==.atomic) with
  | .ok (w,touched)=>k.runT P w (es++touched.toArray.map (⟨.cell ·,true,m==.atomic⟩))
  | .error h=>(Result.halt h w,es)
theorem Lm{m:Mode}{a:Addr}{v:Value}{k:Sem α}{w:World}{es:Array Event}(h1:∀ x,v≠.agg x)(h2:∀ x,v≠.tuple x):(Sem.store m a v k).runT P w es=storeT P m a v k w es:=by
 cases v <;> first|rfl|exact absurd rfl (h1 _)|exact absurd rfl (h2 _)
theorem dX:∀ (s:Sem α)(w:World)(es:Array Event),w.heap.size<=(rw (s.runT P w es).1).heap.size/\w.drawn<=(rw (s.runT P w es).1).drawn
 | .pure a,w,es=>⟨aY _,aY _⟩
 | .load m a k,w,es=>by
  unfold Sem.runT;split
  .rename_i v _
   exact dX (k v) w _
  .split
   .rename_i v _ _
    exact dX (k v) w _
   .exact⟨aY _,aY _⟩
 | .store m a v k,w,es=>by
  have key:w.heap.size<=(rw (storeT P m a v k w es).1).heap.size/\w.drawn<=(rw (storeT P m a v k w es).1).drawn:=by
   unfold storeT;split
   .split
    .exact⟨aY _,aY _⟩
    .have:=dX k (w.setCell a v) (es.push ⟨.cell a,true,m==.atomic⟩);rw[Cc.eD] at this;exact this
   .split
    .rename_i w' l hx
     have h1:w'.heap.size=w.heap.size/\w'.drawn=w.drawn:=by
      unfold World.farStore at hx;split at hx
      .split at hx
       .rename_i hv
        cases hx
        have:=Cc.uJ hv;exact⟨this.2.1,this.2.2.2.1⟩
       .cases hx
      .cases hx
     have:=dX k w' (es++l.toArray.map (⟨.cell ·,true,m==.atomic⟩));rw[h1.1,h1.2] at this;exact this
    .exact⟨aY _,aY _⟩
  cases v <;> first|exact⟨aY _,aY _⟩|exact key
 | .new o k,w,es=>by
  have:=dX (k w.heap.size) {w with heap:=w.heap.push o} es;simp only[qb3] at this;exact⟨Nat.le_of_succ_le this.1,this.2⟩
 | .shape r k,w,es=>dX (k (w.shape? r)) w es
 | .freeze a n k,w,es=>by
  have:=dX k (w.freeze a n) es;have e2:(w.freeze a n).drawn=w.drawn:=by unfold World.freeze;split <;> rfl
  rw[Cc.iD,e2] at this;exact this
 | .frozen a k,w,es=>dX (k (w.frozen? a)) w es
 | .getObj r k,w,es=>by
  unfold Sem.runT;split
  .exact⟨aY _,aY _⟩
  .rename_i o _ _
   exact dX (k o) w _
  .exact⟨aY _,aY _⟩
 | .setObj r o k,w,es=>by
  unfold Sem.runT;split
  .exact⟨aY _,aY _⟩
  .have:=dX k {w with heap:=w.heap.setIfInBounds r o} (es.push ⟨.obj r,true,o.isChan⟩);simp only[qb5] at this;exact this
  .exact⟨aY _,aY _⟩
 | .choose q k,w,es=>by
  unfold Sem.runT;split
  .exact dX (k 0) w es
  .have:=dX (k (q.cut (w.tape w.drawn q))) {w with drawn:=w.drawn+1} es;exact⟨this.1,Nat.le_of_succ_le this.2⟩
 | .sys c k,w,es=>by
  have:=dX (k (w.sys c).1) (w.sys c).2 (es.push ⟨.output,true,false⟩);have hs:=Y2 w c;rw[hs.1] at this;exact⟨this.1,tT hs.2 this.2⟩
 | .program k,w,es=>dX (k P) w es
 | .mark m k,w,es=>dX k w (es.push ⟨.mark m,false,true⟩)
 | .halt h,w,es=>⟨aY _,aY _⟩
theorem iI{s:Sem α}{w:World}{es:Array Event}{r:Result α}{es':Array Event}(h:s.runT P w es=(r,es')):w.heap.size<=(rw r).heap.size/\w.drawn<=(rw r).drawn:=by
 have:=dX (P:=P) s w es;rw[h] at this;exact this
theorem L8{w ω:World}(hh:HR R L w.heap ω.heap){a b:Addr}(h:AR R a b):(∃ v u,w.cell? a=some v/\ω.cell? b=some u/\VR R L v u)\/(w.cell? a=none/\(∀ at_,∃ m,w.farLoad P a at_=.error (.stuck m))/\∀ v at_,∃ m,w.farStore P a v at_=.error (.stuck m)):=by
 obtain⟨h1,h2,h3⟩:=h;have hb:=hh _ _ h1
 cases hx:w.heap[a.block]? with
 | none =>
  refine .inr ⟨by simp only[World.cell?,hx],fun at_=>⟨ "load: no such cell",?_⟩,fun v at_=>⟨ "store: no such cell",?_⟩⟩
  .simp only[World.farLoad,World.noCell,hx]
  .simp only[World.farStore,World.noCell,hx]
 | some o =>
  rw[hx] at hb
  cases hy:ω.heap[b.block]? with
  | none=>rw[hy] at hb;cases hb
  | some o' =>
   rw[hy] at hb;have far:(∀ x y,o≠.view x y)->(∀ x y,o≠.pending x y)->(∀ at_,∃ m,w.farLoad P a at_=.error (.stuck m))/\∀ v at_,∃ m,w.farStore P a v at_=.error (.stuck m):=by
    intro n1 n2;refine⟨fun at_=>⟨ "load: no such cell",?_⟩,fun v at_=>⟨ "store: no such cell",?_⟩⟩
    .cases o <;> first|exact absurd rfl (n1 _ _)|exact absurd rfl (n2 _ _)|simp only[World.farLoad,World.noCell,hx]
    .cases o <;> first|exact absurd rfl (n1 _ _)|exact absurd rfl (n2 _ _)|simp only[World.farStore,World.noCell,hx]
   cases hb with
   | some Fp=>cases Fp with
    | cells x y e f hxy =>
     cases hs:a.spot with
     | some t=>exact .inr ⟨by simp only[World.cell?,hx,hs,Option.isSome_some,if_true],far (by simp) (by simp)⟩
     | none =>
      have hs':b.spot=none:=by rw[<-h3];exact hs
      rcases hxy.get a.off with⟨g1,g2⟩|⟨v,u,g1,g2,g3⟩
      .exact .inr ⟨by simp[World.cell?,hx,hs,g1],far (by simp) (by simp)⟩
      .exact .inl ⟨v,u,by simp[World.cell?,hx,hs,g1],by simp[World.cell?,hy,hs',<-h2,g2],g3⟩
    | map x y c hxy=>exact .inr ⟨by simp only[World.cell?,hx],far (by simp) (by simp)⟩
    | sit st p=>exact .inr ⟨by simp only[World.cell?,hx],far (by simp) (by simp)⟩
    | fV x y z=>exact .inr ⟨by simp only[World.cell?,hx],far (by simp) (by simp)⟩
    | number x y z hxy=>exact .inr ⟨by simp only[World.cell?,hx],far (by simp) (by simp)⟩
    | M7 m m' hm x y z=>exact .inr ⟨by simp only[World.cell?,hx],far (by simp) (by simp)⟩
theorem UH{w ω:World}(hh:HR R L w.heap ω.heap){r r':Nat}(h:R r r'):w.shape? r=ω.shape? r':=by
 have hb:=hh _ _ h;unfold World.shape?;generalize w.heap[r]? = x at hb;generalize ω.heap[r']? = y at hb
 cases hb with
 | none=>rfl
 | some Fp=>cases Fp with
  | cells x y e f hxy=>simp only[hxy.1]
  | _=>rfl
theorem CS{w ω:World}(hh:HR R L w.heap ω.heap){a b:Addr}(h:AR R a b):w.frozen? a=ω.frozen? b:=by
 obtain⟨h1,h2,h3⟩:=h;have hb:=hh _ _ h1;unfold World.frozen?;rw[h2];generalize w.heap[a.block]? = x at hb;generalize ω.heap[b.block]? = y at hb
 cases hb with
 | none=>rfl
 | some Fp=>cases Fp <;> rfl
theorem aav(hR:PB R){w ω:World}(hh:HR R L w.heap ω.heap){a b:Addr}(h:AR R a b){v u:Value}(hv:VR R L v u):HR R L (w.setCell a v).heap (ω.setCell b u).heap:=by
 unfold World.setCell;dsimp only
 refine HR.modify hR hh h.1 fun o o' ho=>?_
 cases ho with
 | cells x y e f hxy =>
  dsimp only
  rw[h.2.2,h.2.1];refine .cells _ _ _ _ ?_;split
  .exact hxy
  .exact hxy.set _ hv
 | map x y c hxy=>exact .map x y c hxy
 | sit st p=>exact .sit st p
 | fV x y z=>exact .fV x y z
 | number x y z hxy=>exact .number x y z hxy
 | M7 m m' hm x y z=>exact .M7 m m' hm x y z
theorem NM(hR:PB R){w ω:World}(hh:HR R L w.heap ω.heap){a b:Addr}(h:AR R a b)(n:Nat):HR R L (w.freeze a n).heap (ω.freeze b n).heap:=by
 unfold World.freeze;split
 .exact hh
 .dsimp only
  refine HR.modify hR hh h.1 fun o o' ho=>?_
  cases ho with
  | cells x y e f hxy =>
   obtain⟨lo,hi⟩:=f;dsimp only
   rw[h.2.1];exact .cells _ _ _ _ hxy
  | map x y c hxy=>exact .map x y c hxy
  | sit st p=>exact .sit st p
  | fV x y z=>exact .fV x y z
  | number x y z hxy=>exact .number x y z hxy
  | M7 m m' hm x y z=>exact .M7 m m' hm x y z
theorem vW{h:Array Obj}{r b:Nat}(hb:b≠r)(f:Obj->Obj):(h.modify r f)[b]? = h[b]?:=by rw[qa3,if_neg fun e=>hb e.symm]
theorem x9(w:World)(a:Addr)(n:Nat){b:Nat}(hb:b≠a.block):(w.freeze a n).heap[b]? = w.heap[b]?:=by
 unfold World.freeze;split
 .rfl
 .exact vW hb _
theorem Sim.pre{w ω w' ω':World}{r ι:Result α}{g ξ g' es Ω bZ:Array Event}(h:Sim R L C w' ω' r ι ξ g' Ω bZ)(hz:w.heap.size<=w'.heap.size)(hs:ω'.heap.size+w.heap.size=ω.heap.size+w'.heap.size)(hw:ω'={ω with heap:=ω'.heap,drawn:=ω.drawn+(w'.drawn-w.drawn)})(hd1:w.drawn<=w'.drawn)(hd2:w'.drawn<=(rw r).drawn)(hf:∀ b,b<ω.heap.size->(∀ a,¬ R a b)->ω'.heap[b]? = ω.heap[b]?)(hf0:∀ a,a<w.heap.size->(∀ b,¬ R a b)->w'.heap[a]? = w.heap[a]?)(he:nP R ω'.heap.size g ξ es Ω):Sim R L C w ω r ι g g' es bZ where
 res:=h.res
 heap:=h.heap
 size:=by have:=h.size;omega
 grow:=by have:=h.grow;omega
 world:=by
  have h1:=h.world;have h2:ω'.drawn=ω.drawn+(w'.drawn-w.drawn):=by rw[hw]
  have h3:(rw ι).drawn=ω.drawn+((rw r).drawn-w.drawn):=by
   rw[h1];show ω'.drawn+_=_;omega
  have e1:(rw ι).tape=ω.tape:=by rw[h1,hw]
  have e2:(rw ι).os=ω.os:=by rw[h1,hw]
  have e3:(rw ι).output=ω.output:=by rw[h1,hw]
  revert h3 e1 e2 e3;generalize rw ι=W;intro h3 e1 e2 e3;obtain⟨x1,x2,x3,x4,x5⟩:=W;simp only at h3 e1 e2 e3;subst h3 e1 e2 e3;rfl
 frame:=fun b hb hn=>(h.frame b (by omega) hn).trans (hf b hb hn)
 Dm:=fun a ha hn=>(h.Dm a (by omega) hn).trans (hf0 a ha hn)
 ev:=he.trans h.ev h.grow
theorem Sim.adQ{w ω:World}{r ι:Result α}{g ξ g' es Ω bZ:Array Event}(h:Sim R L C w ω r ι ξ g' Ω bZ)(hd2:w.drawn<=(rw r).drawn)(he:nP R ω.heap.size g ξ es Ω):Sim R L C w ω r ι g g' es bZ :=h.pre (aY _) rfl (by simp) (aY _) hd2 (fun _ _ _=>rfl) (fun _ _ _=>rfl) he
theorem jg(hR:PB R):∀ {s t:Sem α},SR P R L C s t->∀ {w ω:World}(η:Array Event){es:Array Event}{r:Result α}{es':Array Event},s.runT P w es=(r,es')->¬ Gt r->HR R L w.heap ω.heap -> (∀ i,w.heap.size+i<(rw r).heap.size->R (w.heap.size+i) (ω.heap.size+i))->(∀ i,w.drawn+i<(rw r).drawn->ω.tape (ω.drawn+i)=w.tape (w.drawn+i)) ->
  ∃ ι bZ,t.runT P ω η=(ι,bZ)/\Sim R L C w ω r ι es es' η bZ
 | .pure a,t,h,w,ω,η,es,r,es',hr,hg,hh,hn,ht=>by
  obtain⟨b,rfl,hc⟩:=h
  cases hr
  exact⟨.ok b ω,η,rfl,⟨hh,rfl,aY _,by simp[rw],fun _ _ _=>rfl,fun _ _ _=>rfl,nP.nil _ _⟩,.ok hc⟩
 | .load m a k,t,h,w,ω,η,es,r,es',hr,hg,hh,hn,ht=>by
  obtain⟨b,l,rfl,hm,hab,hk⟩:=h;subst hm;rcases L8 (P:=P) hh hab with⟨v,u,h1,h2,h3⟩|⟨h1,h2,_⟩
  .have e1:(Sem.load .plain a k).runT P w es=(k v).runT P w (es.push ⟨.cell a,false,Mode.plain==.atomic⟩):=by simp only[Sem.runT,h1]
   have e2:(Sem.load .plain b l).runT P ω η=(l u).runT P ω (η.push ⟨.cell b,false,Mode.plain==.atomic⟩):=by simp only[Sem.runT,h2]
   rw[e1] at hr;rw[e2];obtain⟨ι,bZ,h4,h5⟩:=jg hR (hk v u h3) (η.push ⟨.cell b,false,Mode.plain==.atomic⟩) hr hg hh hn ht;exact⟨ι,bZ,h4,h5.adQ (iI hr).2 (.one _ _ (.cell a b false hab.1 ((HR.lt hh hab.1).1 (Cc.A9 h1))))⟩
  .obtain⟨x,hx⟩:=h2 (Mode.plain==.atomic);simp only[Sem.runT,h1,hx] at hr
   cases hr
   exact absurd trivial hg
 | .store m a v k,t,h,w,ω,η,es,r,es',hr,hg,hh,hn,ht=>by
  obtain⟨b,u,l,rfl,hm,hab,hv,hk⟩:=h;subst hm;by_cases hagg:(∃ x,v=.agg x)\/∃ x,v=.tuple x
  .rcases hagg with⟨x,rfl⟩|⟨x,rfl⟩ <;> (simp only[Sem.runT] at hr;cases hr;exact absurd trivial hg)
  .have n1:∀ x,v≠.agg x:=fun x e=>hagg (.inl ⟨x,e⟩)
   have n2:∀ x,v≠.tuple x:=fun x e=>hagg (.inr ⟨x,e⟩)
   have n3:∀ x,u≠.agg x:=fun x e=>by subst e;cases hv;exact n1 _ rfl
   have n4:∀ x,u≠.tuple x:=fun x e=>by subst e;cases hv;exact n2 _ rfl
   rw[Lm n1 n2] at hr;rw[Lm n3 n4];unfold storeT at hr ⊢;rcases L8 (P:=P) hh hab with⟨v',u',h1,h2,h3⟩|⟨h1,_,h2⟩
   .rw[h1] at hr;rw[h2];dsimp only at hr ⊢;rw[<-CS hh hab];by_cases hf:w.frozen? a=true
    .rw[if_pos hf] at hr
     cases hr
     exact absurd trivial hg
    .rw[if_neg hf] at hr;rw[if_neg hf];obtain⟨ι,bZ,h4,h5⟩:=jg hR hk (η.push ⟨.cell b,true,Mode.plain==.atomic⟩) hr hg (aav hR hh hab hv) (by rw[Cc.eD,Cc.eD];exact hn) ht;refine⟨ι,bZ,h4,h5.pre (by rw[Cc.eD];exact aY _) (by rw[Cc.eD,Cc.eD]) ?_ (aY _) (iI hr).2 ?_ ?_ (.one _ _ (.cell a b true hab.1 ?_))⟩
     .simp[World.setCell]
     .intro c hc hnc;exact vW (fun e=>hnc _ (e ▸ hab.1)) _
     .intro c hc hnc;exact vW (fun e=>hnc _ (e ▸ hab.1)) _
     .rw[Cc.eD];exact(HR.lt hh hab.1).1 (Cc.A9 h1)
   .obtain⟨x,hx⟩:=h2 v (Mode.plain==.atomic);rw[h1] at hr;dsimp only at hr;rw[hx] at hr
    cases hr
    exact absurd trivial hg
 | .new o k,t,h,w,ω,η,es,r,es',hr,hg,hh,hn,ht=>by
  obtain⟨o',l,rfl,ho,hk⟩:=h;have hgr:=iI (s:=k w.heap.size) (P:=P) hr;simp only[qb3] at hgr;have h0:R w.heap.size ω.heap.size:=by simpa using hn 0 (by omega)
  obtain⟨ι,bZ,h4,h5⟩:=jg (ω:={ω with heap:=ω.heap.push o'}) hR (hk _ _ h0) η hr hg (hh.push hR h0 ho) (fun i hi=>by
   simp only[qb3] at hi ⊢;have:=hn (i+1) (by omega)
   rwa [show w.heap.size+1+i=w.heap.size+(i+1) by omega,show ω.heap.size+1+i=ω.heap.size+(i+1) by omega]) ht
  refine⟨ι,bZ,h4,h5.pre (by simp) (by simp;omega) (by simp) (aY _) hgr.2 ?_ ?_ (nP.nil _ _)⟩
  .intro c hc hnc;show(ω.heap.push o')[c]? = _;rw[Qi,if_neg (by omega)]
  .intro c hc hnc;show(w.heap.push o)[c]? = _;rw[Qi,if_neg (by omega)]
 | .shape a k,t,h,w,ω,η,es,r,es',hr,hg,hh,hn,ht=>by
  obtain⟨a',l,rfl,⟨ha,hk⟩|⟨rfl,ha,hk⟩⟩:=h
  .obtain⟨ι,bZ,h4,h5⟩:=jg hR (hk (w.shape? a)) η (s:=k (w.shape? a)) hr hg hh hn ht;refine⟨ι,bZ,?_,h5⟩;show(l (ω.shape? a')).runT P ω η=_;rw[<-UH hh ha];exact h4
  .obtain⟨c,e,h1,h2⟩:=hh.opq a ha;have e1:w.shape? a=some (e,c.size):=by unfold World.shape?;rw[h1]
   have e2:ω.shape? a=some (e,c.size):=by unfold World.shape?;rw[h2]
   have hr':(k (some (e,c.size))).runT P w es=(r,es'):=by rw[<-e1];exact hr
   obtain⟨ι,bZ,h4,h5⟩:=jg hR (hk e c.size) η (s:=k (some (e,c.size))) hr' hg hh hn ht;refine⟨ι,bZ,?_,h5⟩;show(l (ω.shape? a)).runT P ω η=_;rw[e2];exact h4
 | .freeze a n k,t,h,w,ω,η,es,r,es',hr,hg,hh,hn,ht=>by
  obtain⟨b,l,rfl,hab,hk⟩:=h;have e1:∀ (w:World) a n,(w.freeze a n).drawn=w.drawn:=fun w a n=>by unfold World.freeze;split <;> rfl
  have e2:∀ (w:World) a n,(w.freeze a n).tape=w.tape:=fun w a n=>by unfold World.freeze;split <;> rfl
  obtain⟨ι,bZ,h4,h5⟩:=jg hR hk η (s:=k) hr hg (NM hR hh hab n) (by rw[Cc.iD,Cc.iD];exact hn) (by rw[e1,e1,e2,e2];exact ht);have hgr:=iI (s:=k) (P:=P) hr;refine⟨ι,bZ,h4,h5.pre (by rw[Cc.iD];exact aY _) (by rw[Cc.iD,Cc.iD]) ?_ (by rw[e1];exact aY _) hgr.2 ?_ ?_ (nP.nil _ _)⟩
  .rw[e1];unfold World.freeze;split <;> simp
  .intro c hc hnc;exact x9 _ _ _ fun e=>hnc _ (e ▸ hab.1)
  .intro c hc hnc;exact x9 _ _ _ fun e=>hnc _ (e ▸ hab.1)
 | .frozen a k,t,h,w,ω,η,es,r,es',hr,hg,hh,hn,ht=>by
  obtain⟨b,l,rfl,⟨hab,hk⟩|⟨hab,ha,hk⟩⟩:=h
  .obtain⟨ι,bZ,h4,h5⟩:=jg hR (hk (w.frozen? a)) η (s:=k (w.frozen? a)) hr hg hh hn ht;refine⟨ι,bZ,?_,h5⟩;show(l (ω.frozen? b)).runT P ω η=_;rw[<-CS hh hab];exact h4
  .obtain⟨c,e,h1,h2⟩:=hh.opq a.block ha;have e1:w.frozen? a=false:=by unfold World.frozen?;rw[h1];simp
   have e2:ω.frozen? b=false:=by unfold World.frozen?;rw[<-hab,h2];simp
   have hr':(k false).runT P w es=(r,es'):=by rw[<-e1];exact hr
   obtain⟨ι,bZ,h4,h5⟩:=jg hR hk η (s:=k false) hr' hg hh hn ht;refine⟨ι,bZ,?_,h5⟩;show(l (ω.frozen? b)).runT P ω η=_;rw[e2];exact h4
 | .getObj a k,t,h,w,ω,η,es,r,es',hr,hg,hh,hn,ht=>by
  obtain⟨a',l,rfl,ha,hk⟩:=h;have hb:=hh _ _ ha
  cases hx:w.heap[a]? with
  | none=>simp only[Sem.runT,hx] at hr;cases hr;exact absurd trivial hg
  | some o =>
   rw[hx] at hb
   cases hy:ω.heap[a']? with
   | none=>rw[hy] at hb;cases hb
   | some o' =>
    rw[hy] at hb
    cases hb with
    | some Fp =>
     by_cases hcell:∃ c t f,o=.cells c t f
     .obtain⟨c,t,f,rfl⟩:=hcell;simp only[Sem.runT,hx] at hr
      cases hr
      exact absurd trivial hg
     .have hcell':¬ ∃ c t f,o'=.cells c t f:=by
       rintro⟨c,t,f,rfl⟩
       cases Fp
       exact hcell ⟨_,_,_,rfl⟩
      have hic:o.isChan=false/\o'.isChan=false:=by cases Fp <;> exact⟨rfl,rfl⟩
      have e1:(Sem.getObj a k).runT P w es=(k o).runT P w (es.push ⟨.obj a,false,o.isChan⟩):=by
       simp only[Sem.runT,hx];split
       .rename_i x y z hq;cases hq;exact absurd ⟨_,_,_,rfl⟩ hcell
       .rename_i hq hq2;cases hq2;rfl
       .rename_i hq;cases hq
      have e2:(Sem.getObj a' l).runT P ω η=(l o').runT P ω (η.push ⟨.obj a',false,o'.isChan⟩):=by
       simp only[Sem.runT,hy];split
       .rename_i x y z hq;cases hq;exact absurd ⟨_,_,_,rfl⟩ hcell'
       .rename_i hq hq2;cases hq2;rfl
       .rename_i hq;cases hq
      rw[e1] at hr;rw[e2];obtain⟨ι,bZ,h4,h5⟩:=jg hR (hk o o' Fp) (η.push ⟨.obj a',false,o'.isChan⟩) hr hg hh hn ht;exact⟨ι,bZ,h4,h5.adQ (iI hr).2 (by rw[hic.1,hic.2];exact .one _ _ (.obj a a' false ha (fT.1 hy).1))⟩
 | .setObj a o k,t,h,w,ω,η,es,r,es',hr,hg,hh,hn,ht=>by
  obtain⟨a',o',l,rfl,ha,ho,hk⟩:=h;have hb:=hh _ _ ha
  cases hx:w.heap[a]? with
  | none=>simp only[Sem.runT,hx] at hr;cases hr;exact absurd trivial hg
  | some q =>
   rw[hx] at hb
   cases hy:ω.heap[a']? with
   | none=>rw[hy] at hb;cases hb
   | some q' =>
    rw[hy] at hb
    cases hb with
    | some Fp =>
     by_cases hcell:∃ c t f,q=.cells c t f
     .obtain⟨c,t,f,rfl⟩:=hcell;simp only[Sem.runT,hx] at hr
      cases hr
      exact absurd trivial hg
     .have hcell':¬ ∃ c t f,q'=.cells c t f:=by
       rintro⟨c,t,f,rfl⟩
       cases Fp
       exact hcell ⟨_,_,_,rfl⟩
      have hic:o.isChan=false/\o'.isChan=false:=by cases ho <;> exact⟨rfl,rfl⟩
      have e1:(Sem.setObj a o k).runT P w es=k.runT P {w with heap:=w.heap.setIfInBounds a o} (es.push ⟨.obj a,true,o.isChan⟩):=by
       simp only[Sem.runT,hx];split
       .rename_i x y z hq;cases hq;exact absurd ⟨_,_,_,rfl⟩ hcell
       .rename_i hq hq2;cases hq2;rfl
       .rename_i hq;cases hq
      have e2:(Sem.setObj a' o' l).runT P ω η=l.runT P {ω with heap:=ω.heap.setIfInBounds a' o'} (η.push ⟨.obj a',true,o'.isChan⟩):=by
       simp only[Sem.runT,hy];split
       .rename_i x y z hq;cases hq;exact absurd ⟨_,_,_,rfl⟩ hcell'
       .rename_i hq hq2;cases hq2;rfl
       .rename_i hq;cases hq
      rw[e1] at hr;rw[e2];obtain⟨ι,bZ,h4,h5⟩:=jg (ω:={ω with heap:=ω.heap.setIfInBounds a' o'}) hR hk (η.push ⟨.obj a',true,o'.isChan⟩) hr hg (hh.set hR ha ho) (by simpa using hn) ht;refine⟨ι,bZ,h4,h5.pre (by simp) (by simp) (by simp) (aY _) (iI hr).2 ?_ ?_ (by rw[hic.1,hic.2];exact .one _ _ (.obj a a' true ha (by simpa using(fT.1 hy).1)))⟩
      .intro c hc hnc;show(ω.heap.setIfInBounds a' o')[c]? = _;rw[qa2,if_neg fun e=>hnc _ (e ▸ ha)]
      .intro c hc hnc;show(w.heap.setIfInBounds a o)[c]? = _;rw[qa2,if_neg fun e=>hnc _ (e ▸ ha)]
 | .choose q k,t,h,w,ω,η,es,r,es',hr,hg,hh,hn,ht=>by
  obtain⟨l,rfl,hk⟩:=h;by_cases hf:q.forced=true
  .simp only[Sem.runT,hf,if_true] at hr ⊢;exact jg hR (hk 0) η hr hg hh hn ht
  .have e1:∀ (k:Nat->Sem α) (w:World) es,(Sem.choose q k).runT P w es=(k (q.cut (w.tape w.drawn q))).runT P {w with drawn:=w.drawn+1} es:=fun k w es=>by simp only[Sem.runT,hf,if_false,jI]
   rw[e1] at hr;rw[e1];have hgr:=iI (P:=P) hr;have agr:w.drawn+1<=(rw r).drawn:=hgr.2;have h0:ω.tape ω.drawn=w.tape w.drawn:=by simpa using ht 0 (by omega)
   rw[h0];obtain⟨ι,bZ,h4,h5⟩:=jg (ω:={ω with drawn:=ω.drawn+1}) hR (hk (q.cut (w.tape w.drawn q))) η hr hg hh hn (fun i hi=>by
    simp only at hi ⊢;have:=ht (i+1) (by omega)
    rwa [show w.drawn+1+i=w.drawn+(i+1) by omega,show ω.drawn+1+i=ω.drawn+(i+1) by omega])
   exact⟨ι,bZ,h4,h5.pre (aY _) rfl (by simp) (Nat.le_succ _) agr (fun _ _ _=>rfl) (fun _ _ _=>rfl) (nP.nil _ _)⟩
 | .sys c k,t,h,w,ω,η,es,r,es',hr,hg,hh,hn,ht=>absurd h (by simp[SR])
 | .program k,t,h,w,ω,η,es,r,es',hr,hg,hh,hn,ht=>by
  obtain⟨l,rfl,hk⟩:=h;exact jg hR hk η (s:=k P) hr hg hh hn ht
 | .mark m k,t,h,w,ω,η,es,r,es',hr,hg,hh,hn,ht=>by
  obtain⟨l,rfl,hm,hk⟩:=h;obtain⟨ι,bZ,h4,h5⟩:=jg hR hk (η.push ⟨.mark m,false,true⟩) (s:=k) hr hg hh hn ht;exact⟨ι,bZ,h4,h5.adQ (iI (s:=k) (P:=P) hr).2 (.one _ _ (.mark m hm))⟩
 | .halt x,t,h,w,ω,η,es,r,es',hr,hg,hh,hn,ht=>by
  cases hr
  cases x with
  | panic v =>
   obtain⟨u,rfl,hv⟩:=h;exact⟨.halt (.panic u) ω,η,rfl,⟨hh,rfl,aY _,by simp[rw],fun _ _ _=>rfl,fun _ _ _=>rfl,nP.nil _ _⟩,.panic hv⟩
  | _=>exact absurd h hg
end
end Sr
end Go.Proofs.YtdbgldieilgnmaaGreatDoor
