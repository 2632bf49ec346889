/- K02 -/
import Derived.Test.YtdbgldieilgnmaaGreatDoorK01
set_option linter.all false
set_option maxHeartbeats 8000000
set_option maxRecDepth 100000
namespace Go.Proofs.YtdbgldieilgnmaaGreatDoor
open Go renaming undef → au
section
open Go.Conc
namespace Sr
inductive OO(R:Nat->Nat->Prop)(L:FuncId->Bool):Option Obj->Option Obj->Prop
 | none:OO R L none none
 | some {o o':Obj} (h:OR R L o o'):OO R L (some o) (some o')
structure HR(R:Nat->Nat->Prop)(L:FuncId->Bool)(h h':Array Obj):Prop where
 rel:∀ b b',R b b'->OO R L h[b]? h'[b']?
 opq:∀ b:Nat,L (2*b+1000000001)=true->∃ c e,h[b]? = some (.cells c e (0,0))/\h'[b]? = some (.cells c e (0,0))
 Af:∀ a b:Nat,R a b->L (2*a+1000000001)=false/\L (2*b+1000000001)=false
instance {R:Nat->Nat->Prop}{L:FuncId->Bool}{h h':Array Obj}:CoeFun (HR R L h h') (fun _=>∀ b b',R b b'->OO R L h[b]? h'[b']?):=⟨HR.rel⟩
theorem HR.ne{R:Nat->Nat->Prop}{L:FuncId->Bool}{h h':Array Obj}(hh:HR R L h h'){a b c:Nat}(hab:R a b)(hc:L (2*c+1000000001)=true):a≠c/\b≠c:=by
 have:=hh.Af a b hab;exact⟨fun e=>by rw[e,hc] at this;exact absurd this.1 (by simp),fun e=>by rw[e,hc] at this;exact absurd this.2 (by simp)⟩
def rw{α:Type}:Result α->World
 | .ok _ w=>w
 | .halt _ w=>w
section
variable {P:Program}{R R':Nat->Nat->Prop}{L:FuncId->Bool}{α β:Type}{C:α->α->Prop}
theorem OO.mono(hR:∀ a b,R a b->R' a b){o o':Option Obj}(h:OO R L o o'):OO R' L o o':=by
 cases h with
 | none=>exact .none
 | some h=>exact .some (h.mono hR)
theorem HR.push(hR:PB R){h h':Array Obj}(hh:HR R L h h')(hn:R h.size h'.size){o o':Obj}(ho:OR R L o o'):HR R L (h.push o) (h'.push o'):=by
 refine⟨fun b b' hb=>?_,fun b hb=>?_,hh.Af⟩
 rotate_left
 .obtain⟨c,e,h1,h2⟩:=hh.opq b hb;have l1:=(fT.1 h1).1;have l2:=(fT.1 h2).1;exact⟨c,e,by rw[Qi,if_neg (by omega)];exact h1,by rw[Qi,if_neg (by omega)];exact h2⟩
 rw[Qi,Qi];by_cases e:b=h.size
 .subst e;rw[hR.fn _ _ _ hb hn,if_pos rfl,if_pos rfl];exact .some ho
 .have e':b'≠h'.size:=fun e'=>e (hR.inj _ _ _ (e' ▸ hb) hn)
  rw[if_neg e,if_neg e'];exact hh b b' hb
theorem HR.modify(hR:PB R){h h':Array Obj}(hh:HR R L h h'){r r':Nat}(hr:R r r'){f g:Obj->Obj}(hf:∀ o o',OR R L o o'->OR R L (f o) (g o')):HR R L (h.modify r f) (h'.modify r' g):=by
 refine⟨fun b b' hb=>?_,fun b hb=>?_,hh.Af⟩
 rotate_left
 .obtain⟨c,e,h1,h2⟩:=hh.opq b hb;obtain⟨n1,n2⟩:=hh.ne hr hb;exact⟨c,e,by rw[qa3,if_neg n1];exact h1,by rw[qa3,if_neg n2];exact h2⟩
 rw[qa3,qa3];have hbb:=hh b b' hb;by_cases e:r=b
 .subst e;rw[hR.fn _ _ _ hr hb,if_pos rfl,if_pos rfl]
  cases hx:h[r]? with
  | none =>
   rw[hx] at hbb
   cases hy:h'[b']? with
   | none=>exact .none
   | some o'=>rw[hy] at hbb;cases hbb
  | some o =>
   rw[hx] at hbb
   cases hy:h'[b']? with
   | none=>rw[hy] at hbb;cases hbb
   | some o' =>
    rw[hy] at hbb
    cases hbb with
    | some Fp=>exact .some (hf _ _ Fp)
 .have e':r'≠b':=fun e'=>e (hR.inj _ _ _ (e' ▸ hr) hb)
  rw[if_neg e,if_neg e'];exact hbb
theorem HR.set(hR:PB R){h h':Array Obj}(hh:HR R L h h'){r r':Nat}(hr:R r r'){o o':Obj}(ho:OR R L o o'):HR R L (h.setIfInBounds r o) (h'.setIfInBounds r' o'):=by
 refine⟨fun b b' hb=>?_,fun b hb=>?_,hh.Af⟩
 rotate_left
 .obtain⟨c,e,h1,h2⟩:=hh.opq b hb;obtain⟨n1,n2⟩:=hh.ne hr hb;exact⟨c,e,by rw[ow n1];exact h1,by rw[ow n2];exact h2⟩
 rw[qa2,qa2];have hbb:=hh b b' hb;by_cases e:r=b
 .subst e;rw[hR.fn _ _ _ hr hb,if_pos rfl,if_pos rfl];by_cases hx:r<h.size
  .rw[if_pos hx];by_cases hy:b'<h'.size
   .rw[if_pos hy];exact .some ho
   .rw[mJ hx,MW (by omega)] at hbb;cases hbb
  .rw[if_neg hx];by_cases hy:b'<h'.size
   .rw[mJ hy,MW (by omega)] at hbb;cases hbb
   .rw[if_neg hy];exact .none
 .have e':r'≠b':=fun e'=>e (hR.inj _ _ _ (e' ▸ hr) hb)
  rw[if_neg e,if_neg e'];exact hbb
theorem HR.lt{h h':Array Obj}(hh:HR R L h h'){b b':Nat}(hb:R b b'):b<h.size↔b'<h'.size:=by
 have:=hh b b' hb;by_cases hx:b<h.size
 .by_cases hy:b'<h'.size
  .simp[hx,hy]
  .rw[mJ hx,MW (by omega)] at this;cases this
 .by_cases hy:b'<h'.size
  .rw[mJ hy,MW (by omega)] at this;cases this
  .simp[hx,hy]
def Gt:Result α->Prop
 | .ok ..=>False
 | .halt h _=>Bd h
def Ev(R:Nat->Nat->Prop)(n:Nat)(e:Event):Prop:=(∃ a b,e.loc=.cell a/\R b a.block/\a.block<n/\e.sync=false)\/(∃ r b,e.loc=.obj r/\R b r/\r<n/\e.sync=false)\/(∃ m,e.loc=.mark m/\Mk m=true/\e.write=false/\e.sync=true)
inductive Vh(R:Nat->Nat->Prop)(n:Nat):Event->Event->Prop
 | cell (a b:Addr) (wr:Bool) (h:R a.block b.block) (hn:b.block<n):Vh R n ⟨.cell a,wr,false⟩ ⟨.cell b,wr,false⟩
 | obj (r r':Nat) (wr:Bool) (h:R r r') (hn:r'<n):Vh R n ⟨.obj r,wr,false⟩ ⟨.obj r',wr,false⟩
 | mark (m:Mark) (hm:Mk m=true):Vh R n ⟨.mark m,false,true⟩ ⟨.mark m,false,true⟩
theorem Vh.mono{n m:Nat}{e Θ:Event}(h:Vh R n e Θ)(hm:n<=m):Vh R m e Θ:=by
 cases h with
 | cell a b wr h hn=>exact .cell a b wr h (CW hn hm)
 | obj r r' wr h hn=>exact .obj r r' wr h (CW hn hm)
 | mark m hm=>exact .mark m hm
theorem Vh.ev{n:Nat}{e Θ:Event}(h:Vh R n e Θ):Ev R n Θ:=by
 cases h with
 | cell a b wr h hn=>exact .inl ⟨b,a.block,rfl,h,hn,rfl⟩
 | obj r r' wr h hn=>exact .inr (.inl ⟨r',r,rfl,h,hn,rfl⟩)
 | mark m hm=>exact .inr (.inr ⟨m,rfl,hm,rfl,rfl⟩)
def nP(R:Nat->Nat->Prop)(n:Nat)(g g' es es':Array Event):Prop:=∃ l:List (Event×Event),g'=g++(l.map (·.1)).toArray/\es'=es++(l.map (·.2)).toArray/\∀ p∈l,Vh R n p.1 p.2
theorem nP.nil{n:Nat}(g es:Array Event):nP R n g g es es:=⟨[],by simp,by simp,by simp⟩
theorem nP.one{n:Nat}(g es:Array Event){e Θ:Event}(h:Vh R n e Θ):nP R n g (g.push e) es (es.push Θ):=⟨[(e,Θ)],by apply qcy;simp,by apply qcy;simp,by simpa using h⟩
theorem nP.trans{n m:Nat}{g g' g'' es es' es'':Array Event}(h:nP R n g g' es es')(k:nP R m g' g'' es' es'')(hm:n<=m):nP R m g g'' es es'':=by
 obtain⟨l,rfl,rfl,hl⟩:=h;obtain⟨l',rfl,rfl,hl'⟩:=k;refine⟨l++l',by simp[qbF],by simp[qbF],fun p hp=>?_⟩;rcases UY.1 hp with h|h
 .exact(hl p h).mono hm
 .exact hl' p h
inductive RR(R:Nat->Nat->Prop)(L:FuncId->Bool)(C:α->α->Prop):Result α->Result α->Prop
 | ok {a b:α} {w ω:World} (h:C a b):RR R L C (.ok a w) (.ok b ω)
 | panic {v u:Value} {w ω:World} (h:VR R L v u):RR R L C (.halt (.panic v) w) (.halt (.panic u) ω)
structure Wd(R:Nat->Nat->Prop)(L:FuncId->Bool)(w ω w' ω':World)(g g' es η:Array Event):Prop where
 heap:HR R L w'.heap ω'.heap
 size:ω'.heap.size+w.heap.size=ω.heap.size+w'.heap.size
 grow:ω.heap.size<=ω'.heap.size
 world:ω'={ω with heap:=ω'.heap,drawn:=ω.drawn+(w'.drawn-w.drawn)}
 frame:∀ b,b<ω.heap.size->(∀ a,¬ R a b)->ω'.heap[b]? = ω.heap[b]?
 Dm:∀ a,a<w.heap.size->(∀ b,¬ R a b)->w'.heap[a]? = w.heap[a]?
 ev:nP R ω'.heap.size g g' es η
structure Sim(R:Nat->Nat->Prop)(L:FuncId->Bool)(C:α->α->Prop)(w ω:World)(r ι:Result α)(g g' es η:Array Event):Prop extends Wd R L w ω (rw r) (rw ι) g g' es η where
 res:RR R L C r ι
theorem VK(w:World):∀ (a:Ask β),(w.ask a).2.heap=w.heap/\w.drawn<=(w.ask a).2.drawn:=by
 intro a
 induction a generalizing w with
 | done a=>exact⟨rfl,aY _⟩
 | ask what range k ih =>
  unfold World.ask;dsimp only
  split
  .exact ih _ _
  .have:=ih ((Question.extern what range).cut (w.tape w.drawn (Question.extern what range))) {w with drawn:=w.drawn+1};exact⟨this.1,tT (Nat.le_succ _) this.2⟩
theorem Y2(w:World)(c:Sys):(w.sys c).2.heap=w.heap/\w.drawn<=(w.sys c).2.drawn:=by
 have h:=VK w (Kernel.perform c w.os);unfold World.sys;split
 .exact⟨rfl,aY _⟩
 .rename_i r os w' hx hy
  rw[hy] at h;exact h
def storeT(P:Program)(m:Mode)(a:Addr)(v:Value)(k:Sem α)(w:World)(es:Array Event):Result α×Array Event:=match w.cell? a with
 | some _=>if w.frozen? a then(Result.halt (.unsupported (.unsafePointer "a write to bytes that a string shares")) w,es) else k.runT P (w.setCell a v) (es.push ⟨.cell a,true,m==.atomic⟩)
 | none=>match w.farStore P a v (m==.atomic) with
  | .ok (w,touched)=>k.runT P w (es++touched.toArray.map (⟨.cell ·,true,m==.atomic⟩))
  | .error h=>(Result.halt h w,es)
theorem Lm{m:Mode}{a:Addr}{v:Value}{k:Sem α}{w:World}{es:Array Event}(h1:∀ x,v≠.agg x)(h2:∀ x,v≠.tuple x):(Sem.store m a v k).runT P w es=storeT P m a v k w es:=by
 cases v <;> first|rfl|exact absurd rfl (h1 _)|exact absurd rfl (h2 _)
theorem dX:∀ (s:Sem α)(w:World)(es:Array Event),w.heap.size<=(rw (s.runT P w es).1).heap.size/\w.drawn<=(rw (s.runT P w es).1).drawn
 | .pure a,w,es=>⟨aY _,aY _⟩
 | .load m a k,w,es=>by
  unfold Sem.runT;split
  .rename_i v _
   exact dX (k v) w _
  .split
   .rename_i v _ _
    exact dX (k v) w _
   .exact⟨aY _,aY _⟩
 | .store m a v k,w,es=>by
  have key:w.heap.size<=(rw (storeT P m a v k w es).1).heap.size/\w.drawn<=(rw (storeT P m a v k w es).1).drawn:=by
   unfold storeT;split
   .split
    .exact⟨aY _,aY _⟩
    .have:=dX k (w.setCell a v) (es.push ⟨.cell a,true,m==.atomic⟩);rw[Cc.eD] at this;exact this
   .split
    .rename_i w' l hx
     have h1:w'.heap.size=w.heap.size/\w'.drawn=w.drawn:=by
      unfold World.farStore at hx;split at hx
      .split at hx
       .rename_i hv
        cases hx
        have:=Cc.uJ hv;exact⟨this.2.1,this.2.2.2.1⟩
       .cases hx
      .cases hx
     have:=dX k w' (es++l.toArray.map (⟨.cell ·,true,m==.atomic⟩));rw[h1.1,h1.2] at this;exact this
    .exact⟨aY _,aY _⟩
  cases v <;> first|exact⟨aY _,aY _⟩|exact key
 | .new o k,w,es=>by
  have:=dX (k w.heap.size) {w with heap:=w.heap.push o} es;simp only[qb3] at this;exact⟨Nat.le_of_succ_le this.1,this.2⟩
 | .shape r k,w,es=>dX (k (w.shape? r)) w es
 | .freeze a n k,w,es=>by
  have:=dX k (w.freeze a n) es;have e2:(w.freeze a n).drawn=w.drawn:=by unfold World.freeze;split <;> rfl
  rw[Cc.iD,e2] at this;exact this
 | .frozen a k,w,es=>dX (k (w.frozen? a)) w es
 | .getObj r k,w,es=>by
  unfold Sem.runT;split
  .exact⟨aY _,aY _⟩
  .rename_i o _ _
   exact dX (k o) w _
  .exact⟨aY _,aY _⟩
 | .setObj r o k,w,es=>by
  unfold Sem.runT;split
  .exact⟨aY _,aY _⟩
  .have:=dX k {w with heap:=w.heap.setIfInBounds r o} (es.push ⟨.obj r,true,o.isChan⟩);simp only[qb5] at this;exact this
  .exact⟨aY _,aY _⟩
 | .choose q k,w,es=>by
  unfold Sem.runT;split
  .exact dX (k 0) w es
  .have:=dX (k (q.cut (w.tape w.drawn q))) {w with drawn:=w.drawn+1} es;exact⟨this.1,Nat.le_of_succ_le this.2⟩
 | .sys c k,w,es=>by
  have:=dX (k (w.sys c).1) (w.sys c).2 (es.push ⟨.output,true,false⟩);have hs:=Y2 w c;rw[hs.1] at this;exact⟨this.1,tT hs.2 this.2⟩
 | .program k,w,es=>dX (k P) w es
 | .mark m k,w,es=>dX k w (es.push ⟨.mark m,false,true⟩)
 | .halt h,w,es=>⟨aY _,aY _⟩
theorem iI{s:Sem α}{w:World}{es:Array Event}{r:Result α}{es':Array Event}(h:s.runT P w es=(r,es')):w.heap.size<=(rw r).heap.size/\w.drawn<=(rw r).drawn:=by
 have:=dX (P:=P) s w es;rw[h] at this;exact this
theorem L8{w ω:World}(hh:HR R L w.heap ω.heap){a b:Addr}(h:AR R a b):(∃ v u,w.cell? a=some v/\ω.cell? b=some u/\VR R L v u)\/(w.cell? a=none/\(∀ at_,∃ m,w.farLoad P a at_=.error (.stuck m))/\∀ v at_,∃ m,w.farStore P a v at_=.error (.stuck m)):=by
 obtain⟨h1,h2,h3⟩:=h;have hb:=hh _ _ h1
 cases hx:w.heap[a.block]? with
 | none =>
  refine .inr ⟨by simp only[World.cell?,hx],fun at_=>⟨ "load: no such cell",?_⟩,fun v at_=>⟨ "store: no such cell",?_⟩⟩
  .simp only[World.farLoad,World.noCell,hx]
  .simp only[World.farStore,World.noCell,hx]
 | some o =>
  rw[hx] at hb
  cases hy:ω.heap[b.block]? with
  | none=>rw[hy] at hb;cases hb
  | some o' =>
   rw[hy] at hb;have far:(∀ x y,o≠.view x y)->(∀ x y,o≠.pending x y)->(∀ at_,∃ m,w.farLoad P a at_=.error (.stuck m))/\∀ v at_,∃ m,w.farStore P a v at_=.error (.stuck m):=by
    intro n1 n2;refine⟨fun at_=>⟨ "load: no such cell",?_⟩,fun v at_=>⟨ "store: no such cell",?_⟩⟩
    .cases o <;> first|exact absurd rfl (n1 _ _)|exact absurd rfl (n2 _ _)|simp only[World.farLoad,World.noCell,hx]
    .cases o <;> first|exact absurd rfl (n1 _ _)|exact absurd rfl (n2 _ _)|simp only[World.farStore,World.noCell,hx]
   cases hb with
   | some Fp=>cases Fp with
    | cells x y e f hxy =>
     cases hs:a.spot with
     | some t=>exact .inr ⟨by simp only[World.cell?,hx,hs,Option.isSome_some,if_true],far (by simp) (by simp)⟩
     | none =>
      have hs':b.spot=none:=by rw[<-h3];exact hs
      rcases hxy.get a.off with⟨g1,g2⟩|⟨v,u,g1,g2,g3⟩
      .exact .inr ⟨by simp[World.cell?,hx,hs,g1],far (by simp) (by simp)⟩
      .exact .inl ⟨v,u,by simp[World.cell?,hx,hs,g1],by simp[World.cell?,hy,hs',<-h2,g2],g3⟩
    | map x y c hxy=>exact .inr ⟨by simp only[World.cell?,hx],far (by simp) (by simp)⟩
    | sit st p=>exact .inr ⟨by simp only[World.cell?,hx],far (by simp) (by simp)⟩
    | fV x y z=>exact .inr ⟨by simp only[World.cell?,hx],far (by simp) (by simp)⟩
    | number x y z hxy=>exact .inr ⟨by simp only[World.cell?,hx],far (by simp) (by simp)⟩
    | M7 m m' hm x y z=>exact .inr ⟨by simp only[World.cell?,hx],far (by simp) (by simp)⟩
theorem UH{w ω:World}(hh:HR R L w.heap ω.heap){r r':Nat}(h:R r r'):w.shape? r=ω.shape? r':=by
 have hb:=hh _ _ h;unfold World.shape?;generalize w.heap[r]? = x at hb;generalize ω.heap[r']? = y at hb
 cases hb with
 | none=>rfl
 | some Fp=>cases Fp with
  | cells x y e f hxy=>simp only[hxy.1]
  | _=>rfl
theorem CS{w ω:World}(hh:HR R L w.heap ω.heap){a b:Addr}(h:AR R a b):w.frozen? a=ω.frozen? b:=by
 obtain⟨h1,h2,h3⟩:=h;have hb:=hh _ _ h1;unfold World.frozen?;rw[h2];generalize w.heap[a.block]? = x at hb;generalize ω.heap[b.block]? = y at hb
 cases hb with
 | none=>rfl
 | some Fp=>cases Fp <;> rfl
theorem aav(hR:PB R){w ω:World}(hh:HR R L w.heap ω.heap){a b:Addr}(h:AR R a b){v u:Value}(hv:VR R L v u):HR R L (w.setCell a v).heap (ω.setCell b u).heap:=by
 unfold World.setCell;dsimp only
 refine HR.modify hR hh h.1 fun o o' ho=>?_
 cases ho with
 | cells x y e f hxy =>
  dsimp only
  rw[h.2.2,h.2.1];refine .cells _ _ _ _ ?_;split
  .exact hxy
  .exact hxy.set _ hv
 | map x y c hxy=>exact .map x y c hxy
 | sit st p=>exact .sit st p
 | fV x y z=>exact .fV x y z
 | number x y z hxy=>exact .number x y z hxy
 | M7 m m' hm x y z=>exact .M7 m m' hm x y z
theorem NM(hR:PB R){w ω:World}(hh:HR R L w.heap ω.heap){a b:Addr}(h:AR R a b)(n:Nat):HR R L (w.freeze a n).heap (ω.freeze b n).heap:=by
 unfold World.freeze;split
 .exact hh
 .dsimp only
  refine HR.modify hR hh h.1 fun o o' ho=>?_
  cases ho with
  | cells x y e f hxy =>
   obtain⟨lo,hi⟩:=f;dsimp only
   rw[h.2.1];exact .cells _ _ _ _ hxy
  | map x y c hxy=>exact .map x y c hxy
  | sit st p=>exact .sit st p
  | fV x y z=>exact .fV x y z
  | number x y z hxy=>exact .number x y z hxy
  | M7 m m' hm x y z=>exact .M7 m m' hm x y z
theorem vW{h:Array Obj}{r b:Nat}(hb:b≠r)(f:Obj->Obj):(h.modify r f)[b]? = h[b]?:=by rw[qa3,if_neg fun e=>hb e.symm]
theorem x9(w:World)(a:Addr)(n:Nat){b:Nat}(hb:b≠a.block):(w.freeze a n).heap[b]? = w.heap[b]?:=by
 unfold World.freeze;split
 .rfl
 .exact vW hb _
theorem Sim.pre{w ω w' ω':World}{r ι:Result α}{g ξ g' es Ω bZ:Array Event}(h:Sim R L C w' ω' r ι ξ g' Ω bZ)(hz:w.heap.size<=w'.heap.size)(hs:ω'.heap.size+w.heap.size=ω.heap.size+w'.heap.size)(hw:ω'={ω with heap:=ω'.heap,drawn:=ω.drawn+(w'.drawn-w.drawn)})(hd1:w.drawn<=w'.drawn)(hd2:w'.drawn<=(rw r).drawn)(hf:∀ b,b<ω.heap.size->(∀ a,¬ R a b)->ω'.heap[b]? = ω.heap[b]?)(hf0:∀ a,a<w.heap.size->(∀ b,¬ R a b)->w'.heap[a]? = w.heap[a]?)(he:nP R ω'.heap.size g ξ es Ω):Sim R L C w ω r ι g g' es bZ where
 res:=h.res
 heap:=h.heap
 size:=by have:=h.size;omega
 grow:=by have:=h.grow;omega
 world:=by
  have h1:=h.world;have h2:ω'.drawn=ω.drawn+(w'.drawn-w.drawn):=by rw[hw]
  have h3:(rw ι).drawn=ω.drawn+((rw r).drawn-w.drawn):=by
   rw[h1];show ω'.drawn+_=_;omega
  have e1:(rw ι).tape=ω.tape:=by rw[h1,hw]
  have e2:(rw ι).os=ω.os:=by rw[h1,hw]
  have e3:(rw ι).output=ω.output:=by rw[h1,hw]
  revert h3 e1 e2 e3;generalize rw ι=W;intro h3 e1 e2 e3;obtain⟨x1,x2,x3,x4,x5⟩:=W;simp only at h3 e1 e2 e3;subst h3 e1 e2 e3;rfl
 frame:=fun b hb hn=>(h.frame b (by omega) hn).trans (hf b hb hn)
 Dm:=fun a ha hn=>(h.Dm a (by omega) hn).trans (hf0 a ha hn)
 ev:=he.trans h.ev h.grow
theorem Sim.adQ{w ω:World}{r ι:Result α}{g ξ g' es Ω bZ:Array Event}(h:Sim R L C w ω r ι ξ g' Ω bZ)(hd2:w.drawn<=(rw r).drawn)(he:nP R ω.heap.size g ξ es Ω):Sim R L C w ω r ι g g' es bZ :=h.pre (aY _) rfl (by simp) (aY _) hd2 (fun _ _ _=>rfl) (fun _ _ _=>rfl) he
theorem jg(hR:PB R):∀ {s t:Sem α},SR P R L C s t->∀ {w ω:World}(η:Array Event){es:Array Event}{r:Result α}{es':Array Event},s.runT P w es=(r,es')->¬ Gt r->HR R L w.heap ω.heap -> (∀ i,w.heap.size+i<(rw r).heap.size->R (w.heap.size+i) (ω.heap.size+i))->(∀ i,w.drawn+i<(rw r).drawn->ω.tape (ω.drawn+i)=w.tape (w.drawn+i)) ->
  ∃ ι bZ,t.runT P ω η=(ι,bZ)/\Sim R L C w ω r ι es es' η bZ
 | .pure a,t,h,w,ω,η,es,r,es',hr,hg,hh,hn,ht=>by
  obtain⟨b,rfl,hc⟩:=h
  cases hr
  exact⟨.ok b ω,η,rfl,⟨hh,rfl,aY _,by simp[rw],fun _ _ _=>rfl,fun _ _ _=>rfl,nP.nil _ _⟩,.ok hc⟩
 | .load m a k,t,h,w,ω,η,es,r,es',hr,hg,hh,hn,ht=>by
  obtain⟨b,l,rfl,hm,hab,hk⟩:=h;subst hm;rcases L8 (P:=P) hh hab with⟨v,u,h1,h2,h3⟩|⟨h1,h2,_⟩
  .have e1:(Sem.load .plain a k).runT P w es=(k v).runT P w (es.push ⟨.cell a,false,Mode.plain==.atomic⟩):=by simp only[Sem.runT,h1]
   have e2:(Sem.load .plain b l).runT P ω η=(l u).runT P ω (η.push ⟨.cell b,false,Mode.plain==.atomic⟩):=by simp only[Sem.runT,h2]
   rw[e1] at hr;rw[e2];obtain⟨ι,bZ,h4,h5⟩:=jg hR (hk v u h3) (η.push ⟨.cell b,false,Mode.plain==.atomic⟩) hr hg hh hn ht;exact⟨ι,bZ,h4,h5.adQ (iI hr).2 (.one _ _ (.cell a b false hab.1 ((HR.lt hh hab.1).1 (Cc.A9 h1))))⟩
  .obtain⟨x,hx⟩:=h2 (Mode.plain==.atomic);simp only[Sem.runT,h1,hx] at hr
   cases hr
   exact absurd trivial hg
 | .store m a v k,t,h,w,ω,η,es,r,es',hr,hg,hh,hn,ht=>by
  obtain⟨b,u,l,rfl,hm,hab,hv,hk⟩:=h;subst hm;by_cases hagg:(∃ x,v=.agg x)\/∃ x,v=.tuple x
  .rcases hagg with⟨x,rfl⟩|⟨x,rfl⟩ <;> (simp only[Sem.runT] at hr;cases hr;exact absurd trivial hg)
  .have n1:∀ x,v≠.agg x:=fun x e=>hagg (.inl ⟨x,e⟩)
   have n2:∀ x,v≠.tuple x:=fun x e=>hagg (.inr ⟨x,e⟩)
   have n3:∀ x,u≠.agg x:=fun x e=>by subst e;cases hv;exact n1 _ rfl
   have n4:∀ x,u≠.tuple x:=fun x e=>by subst e;cases hv;exact n2 _ rfl
   rw[Lm n1 n2] at hr;rw[Lm n3 n4];unfold storeT at hr ⊢;rcases L8 (P:=P) hh hab with⟨v',u',h1,h2,h3⟩|⟨h1,_,h2⟩
   .rw[h1] at hr;rw[h2];dsimp only at hr ⊢;rw[<-CS hh hab];by_cases hf:w.frozen? a=true
    .rw[if_pos hf] at hr
     cases hr
     exact absurd trivial hg
    .rw[if_neg hf] at hr;rw[if_neg hf];obtain⟨ι,bZ,h4,h5⟩:=jg hR hk (η.push ⟨.cell b,true,Mode.plain==.atomic⟩) hr hg (aav hR hh hab hv) (by rw[Cc.eD,Cc.eD];exact hn) ht;refine⟨ι,bZ,h4,h5.pre (by rw[Cc.eD];exact aY _) (by rw[Cc.eD,Cc.eD]) ?_ (aY _) (iI hr).2 ?_ ?_ (.one _ _ (.cell a b true hab.1 ?_))⟩
     .simp[World.setCell]
     .intro c hc hnc;exact vW (fun e=>hnc _ (e ▸ hab.1)) _
     .intro c hc hnc;exact vW (fun e=>hnc _ (e ▸ hab.1)) _
     .rw[Cc.eD];exact(HR.lt hh hab.1).1 (Cc.A9 h1)
   .obtain⟨x,hx⟩:=h2 v (Mode.plain==.atomic);rw[h1] at hr;dsimp only at hr;rw[hx] at hr
    cases hr
    exact absurd trivial hg
 | .new o k,t,h,w,ω,η,es,r,es',hr,hg,hh,hn,ht=>by
  obtain⟨o',l,rfl,ho,hk⟩:=h;have hgr:=iI (s:=k w.heap.size) (P:=P) hr;simp only[qb3] at hgr;have h0:R w.heap.size ω.heap.size:=by simpa using hn 0 (by omega)
  obtain⟨ι,bZ,h4,h5⟩:=jg (ω:={ω with heap:=ω.heap.push o'}) hR (hk _ _ h0) η hr hg (hh.push hR h0 ho) (fun i hi=>by
   simp only[qb3] at hi ⊢;have:=hn (i+1) (by omega)
   rwa [show w.heap.size+1+i=w.heap.size+(i+1) by omega,show ω.heap.size+1+i=ω.heap.size+(i+1) by omega]) ht
  refine⟨ι,bZ,h4,h5.pre (by simp) (by simp;omega) (by simp) (aY _) hgr.2 ?_ ?_ (nP.nil _ _)⟩
  .intro c hc hnc;show(ω.heap.push o')[c]? = _;rw[Qi,if_neg (by omega)]
  .intro c hc hnc;show(w.heap.push o)[c]? = _;rw[Qi,if_neg (by omega)]
 | .shape a k,t,h,w,ω,η,es,r,es',hr,hg,hh,hn,ht=>by
  obtain⟨a',l,rfl,⟨ha,hk⟩|⟨rfl,ha,hk⟩⟩:=h
  .obtain⟨ι,bZ,h4,h5⟩:=jg hR (hk (w.shape? a)) η (s:=k (w.shape? a)) hr hg hh hn ht;refine⟨ι,bZ,?_,h5⟩;show(l (ω.shape? a')).runT P ω η=_;rw[<-UH hh ha];exact h4
  .obtain⟨c,e,h1,h2⟩:=hh.opq a ha;have e1:w.shape? a=some (e,c.size):=by unfold World.shape?;rw[h1]
   have e2:ω.shape? a=some (e,c.size):=by unfold World.shape?;rw[h2]
   have hr':(k (some (e,c.size))).runT P w es=(r,es'):=by rw[<-e1];exact hr
   obtain⟨ι,bZ,h4,h5⟩:=jg hR (hk e c.size) η (s:=k (some (e,c.size))) hr' hg hh hn ht;refine⟨ι,bZ,?_,h5⟩;show(l (ω.shape? a)).runT P ω η=_;rw[e2];exact h4
 | .freeze a n k,t,h,w,ω,η,es,r,es',hr,hg,hh,hn,ht=>by
  obtain⟨b,l,rfl,hab,hk⟩:=h;have e1:∀ (w:World) a n,(w.freeze a n).drawn=w.drawn:=fun w a n=>by unfold World.freeze;split <;> rfl
  have e2:∀ (w:World) a n,(w.freeze a n).tape=w.tape:=fun w a n=>by unfold World.freeze;split <;> rfl
  obtain⟨ι,bZ,h4,h5⟩:=jg hR hk η (s:=k) hr hg (NM hR hh hab n) (by rw[Cc.iD,Cc.iD];exact hn) (by rw[e1,e1,e2,e2];exact ht);have hgr:=iI (s:=k) (P:=P) hr;refine⟨ι,bZ,h4,h5.pre (by rw[Cc.iD];exact aY _) (by rw[Cc.iD,Cc.iD]) ?_ (by rw[e1];exact aY _) hgr.2 ?_ ?_ (nP.nil _ _)⟩
  .rw[e1];unfold World.freeze;split <;> simp
  .intro c hc hnc;exact x9 _ _ _ fun e=>hnc _ (e ▸ hab.1)
  .intro c hc hnc;exact x9 _ _ _ fun e=>hnc _ (e ▸ hab.1)
 | .frozen a k,t,h,w,ω,η,es,r,es',hr,hg,hh,hn,ht=>by
  obtain⟨b,l,rfl,⟨hab,hk⟩|⟨hab,ha,hk⟩⟩:=h
  .obtain⟨ι,bZ,h4,h5⟩:=jg hR (hk (w.frozen? a)) η (s:=k (w.frozen? a)) hr hg hh hn ht;refine⟨ι,bZ,?_,h5⟩;show(l (ω.frozen? b)).runT P ω η=_;rw[<-CS hh hab];exact h4
  .obtain⟨c,e,h1,h2⟩:=hh.opq a.block ha;have e1:w.frozen? a=false:=by unfold World.frozen?;rw[h1];simp
   have e2:ω.frozen? b=false:=by unfold World.frozen?;rw[<-hab,h2];simp
   have hr':(k false).runT P w es=(r,es'):=by rw[<-e1];exact hr
   obtain⟨ι,bZ,h4,h5⟩:=jg hR hk η (s:=k false) hr' hg hh hn ht;refine⟨ι,bZ,?_,h5⟩;show(l (ω.frozen? b)).runT P ω η=_;rw[e2];exact h4
 | .getObj a k,t,h,w,ω,η,es,r,es',hr,hg,hh,hn,ht=>by
  obtain⟨a',l,rfl,ha,hk⟩:=h;have hb:=hh _ _ ha
  cases hx:w.heap[a]? with
  | none=>simp only[Sem.runT,hx] at hr;cases hr;exact absurd trivial hg
  | some o =>
   rw[hx] at hb
   cases hy:ω.heap[a']? with
   | none=>rw[hy] at hb;cases hb
   | some o' =>
    rw[hy] at hb
    cases hb with
    | some Fp =>
     by_cases hcell:∃ c t f,o=.cells c t f
     .obtain⟨c,t,f,rfl⟩:=hcell;simp only[Sem.runT,hx] at hr
      cases hr
      exact absurd trivial hg
     .have hcell':¬ ∃ c t f,o'=.cells c t f:=by
       rintro⟨c,t,f,rfl⟩
       cases Fp
       exact hcell ⟨_,_,_,rfl⟩
      have hic:o.isChan=false/\o'.isChan=false:=by cases Fp <;> exact⟨rfl,rfl⟩
      have e1:(Sem.getObj a k).runT P w es=(k o).runT P w (es.push ⟨.obj a,false,o.isChan⟩):=by
       simp only[Sem.runT,hx];split
       .rename_i x y z hq;cases hq;exact absurd ⟨_,_,_,rfl⟩ hcell
       .rename_i hq hq2;cases hq2;rfl
       .rename_i hq;cases hq
      have e2:(Sem.getObj a' l).runT P ω η=(l o').runT P ω (η.push ⟨.obj a',false,o'.isChan⟩):=by
       simp only[Sem.runT,hy];split
       .rename_i x y z hq;cases hq;exact absurd ⟨_,_,_,rfl⟩ hcell'
       .rename_i hq hq2;cases hq2;rfl
       .rename_i hq;cases hq
      rw[e1] at hr;rw[e2];obtain⟨ι,bZ,h4,h5⟩:=jg hR (hk o o' Fp) (η.push ⟨.obj a',false,o'.isChan⟩) hr hg hh hn ht;exact⟨ι,bZ,h4,h5.adQ (iI hr).2 (by rw[hic.1,hic.2];exact .one _ _ (.obj a a' false ha (fT.1 hy).1))⟩
 | .setObj a o k,t,h,w,ω,η,es,r,es',hr,hg,hh,hn,ht=>by
  obtain⟨a',o',l,rfl,ha,ho,hk⟩:=h;have hb:=hh _ _ ha
  cases hx:w.heap[a]? with
  | none=>simp only[Sem.runT,hx] at hr;cases hr;exact absurd trivial hg
  | some q =>
   rw[hx] at hb
   cases hy:ω.heap[a']? with
   | none=>rw[hy] at hb;cases hb
   | some q' =>
    rw[hy] at hb
    cases hb with
    | some Fp =>
     by_cases hcell:∃ c t f,q=.cells c t f
     .obtain⟨c,t,f,rfl⟩:=hcell;simp only[Sem.runT,hx] at hr
      cases hr
      exact absurd trivial hg
     .have hcell':¬ ∃ c t f,q'=.cells c t f:=by
       rintro⟨c,t,f,rfl⟩
       cases Fp
       exact hcell ⟨_,_,_,rfl⟩
      have hic:o.isChan=false/\o'.isChan=false:=by cases ho <;> exact⟨rfl,rfl⟩
      have e1:(Sem.setObj a o k).runT P w es=k.runT P {w with heap:=w.heap.setIfInBounds a o} (es.push ⟨.obj a,true,o.isChan⟩):=by
       simp only[Sem.runT,hx];split
       .rename_i x y z hq;cases hq;exact absurd ⟨_,_,_,rfl⟩ hcell
       .rename_i hq hq2;cases hq2;rfl
       .rename_i hq;cases hq
      have e2:(Sem.setObj a' o' l).runT P ω η=l.runT P {ω with heap:=ω.heap.setIfInBounds a' o'} (η.push ⟨.obj a',true,o'.isChan⟩):=by
       simp only[Sem.runT,hy];split
       .rename_i x y z hq;cases hq;exact absurd ⟨_,_,_,rfl⟩ hcell'
       .rename_i hq hq2;cases hq2;rfl
       .rename_i hq;cases hq
      rw[e1] at hr;rw[e2];obtain⟨ι,bZ,h4,h5⟩:=jg (ω:={ω with heap:=ω.heap.setIfInBounds a' o'}) hR hk (η.push ⟨.obj a',true,o'.isChan⟩) hr hg (hh.set hR ha ho) (by simpa using hn) ht;refine⟨ι,bZ,h4,h5.pre (by simp) (by simp) (by simp) (aY _) (iI hr).2 ?_ ?_ (by rw[hic.1,hic.2];exact .one _ _ (.obj a a' true ha (by simpa using(fT.1 hy).1)))⟩
      .intro c hc hnc;show(ω.heap.setIfInBounds a' o')[c]? = _;rw[qa2,if_neg fun e=>hnc _ (e ▸ ha)]
      .intro c hc hnc;show(w.heap.setIfInBounds a o)[c]? = _;rw[qa2,if_neg fun e=>hnc _ (e ▸ ha)]
 | .choose q k,t,h,w,ω,η,es,r,es',hr,hg,hh,hn,ht=>by
  obtain⟨l,rfl,hk⟩:=h;by_cases hf:q.forced=true
  .simp only[Sem.runT,hf,if_true] at hr ⊢;exact jg hR (hk 0) η hr hg hh hn ht
  .have e1:∀ (k:Nat->Sem α) (w:World) es,(Sem.choose q k).runT P w es=(k (q.cut (w.tape w.drawn q))).runT P {w with drawn:=w.drawn+1} es:=fun k w es=>by simp only[Sem.runT,hf,if_false,jI]
   rw[e1] at hr;rw[e1];have hgr:=iI (P:=P) hr;have agr:w.drawn+1<=(rw r).drawn:=hgr.2;have h0:ω.tape ω.drawn=w.tape w.drawn:=by simpa using ht 0 (by omega)
   rw[h0];obtain⟨ι,bZ,h4,h5⟩:=jg (ω:={ω with drawn:=ω.drawn+1}) hR (hk (q.cut (w.tape w.drawn q))) η hr hg hh hn (fun i hi=>by
    simp only at hi ⊢;have:=ht (i+1) (by omega)
    rwa [show w.drawn+1+i=w.drawn+(i+1) by omega,show ω.drawn+1+i=ω.drawn+(i+1) by omega])
   exact⟨ι,bZ,h4,h5.pre (aY _) rfl (by simp) (Nat.le_succ _) agr (fun _ _ _=>rfl) (fun _ _ _=>rfl) (nP.nil _ _)⟩
 | .sys c k,t,h,w,ω,η,es,r,es',hr,hg,hh,hn,ht=>absurd h (by simp[SR])
 | .program k,t,h,w,ω,η,es,r,es',hr,hg,hh,hn,ht=>by
  obtain⟨l,rfl,hk⟩:=h;exact jg hR hk η (s:=k P) hr hg hh hn ht
 | .mark m k,t,h,w,ω,η,es,r,es',hr,hg,hh,hn,ht=>by
  obtain⟨l,rfl,hm,hk⟩:=h;obtain⟨ι,bZ,h4,h5⟩:=jg hR hk (η.push ⟨.mark m,false,true⟩) (s:=k) hr hg hh hn ht;exact⟨ι,bZ,h4,h5.adQ (iI (s:=k) (P:=P) hr).2 (.one _ _ (.mark m hm))⟩
 | .halt x,t,h,w,ω,η,es,r,es',hr,hg,hh,hn,ht=>by
  cases hr
  cases x with
  | panic v =>
   obtain⟨u,rfl,hv⟩:=h;exact⟨.halt (.panic u) ω,η,rfl,⟨hh,rfl,aY _,by simp[rw],fun _ _ _=>rfl,fun _ _ _=>rfl,nP.nil _ _⟩,.panic hv⟩
  | _=>exact absurd h hg
end
end Sr
end
section
open Go.Conc
namespace Sr
def avX(l:List (Nat×Value)):Operand->Bool
 | .tmp t=>l.all fun p=>p.1 != t
 | _=>true
def avD(l:List (Nat×Value)):Option Nat->Bool
 | some d=>l.all fun p=>p.1 != d
 | none=>true
def Vt(l:List (Nat×Value))(o:Oper):Bool:=o.op.operands.all (avX l)&&avD l o.dst
def kg(P:Program)(L:FuncId->Bool)(K:Op->Bool)(l:List (Nat×Value)):Code->Bool
 | .skip|.exit _|.label _|.goto _|.ret|.refuse _=>true
 | .region _ ops _=>ops.all fun o=>K o.op&&Vt l o
 | .seq a b=>kg P L K l a&&kg P L K l b
 | .cond c a b=>jL P L c&&avX l c&&kg P L K l a&&kg P L K l b
 | .block _ a|.loop a|.scope a=>kg P L K l a
 | .rangeFunc ..=>false
def Jr(P:Program)(L:FuncId->Bool)(K:Op->Bool)(l:List (Nat×Value)):Item->Bool
 | .code c|.inLoop c|.inScope c=>kg P L K l c
 | .inBlock _=>true
 | .inRegion ops _=>ops.all fun o=>K o.op&&Vt l o
 | _=>false
def Items(P:Program)(L:FuncId->Bool)(K:Op->Bool)(l:List (Nat×Value))(todo:List Item):Prop:=∀ x∈todo,Jr P L K l x=true
def vB(P:Program)(L:FuncId->Bool)(K:Op->Bool):Prop:=∀ f,L f=true->∀ fn c,P.funcs[f]? = some fn->fn.body=some c->kg P L K [] c=true
def over(l:List (Nat×Value))(x:Array Value):Array Value:=l.foldl (fun x p=>x.setIfInBounds p.1 p.2) x
theorem o9:∀ (l:List (Nat×Value))(x:Array Value)(t:Nat),(l.all fun p=>p.1 != t)=true->(over l x)[t]? = x[t]?
 | [],x,t,_=>rfl
 | p::l,x,t,h=>by
  rw[JJ,fE] at h;show(over l (x.setIfInBounds p.1 p.2))[t]? = _;rw[o9 l _ t h.2,ow (by simpa using h.1)]
theorem LQ:∀ (l:List (Nat×Value))(x:Array Value)(t:Nat)(v:Value),(l.all fun p=>p.1 != t)=true->over l (x.setIfInBounds t v)=(over l x).setIfInBounds t v
 | [],x,t,v,_=>rfl
 | p::l,x,t,v,h=>by
  rw[JJ,fE] at h;show over l ((x.setIfInBounds t v).setIfInBounds p.1 p.2)=(over l (x.setIfInBounds p.1 p.2)).setIfInBounds t v;rw[<-LQ l _ t v h.2];congr 1;have hne:p.1≠t:=by simpa using h.1
  apply qcv;intro i;by_cases h1:p.1=i
  .subst h1;rw[ow (Ao hne)];by_cases hlt:p.1<x.size
   .rw[Sn (by simpa using hlt),Sn hlt]
   .rw[MW (by simpa using hlt),MW (by simpa using hlt)]
  .rw[ow h1];by_cases h2:t=i
   .subst h2;by_cases hlt:t<x.size
    .rw[Sn hlt,Sn (by simpa using hlt)]
    .rw[MW (by simpa using hlt),MW (by simpa using hlt)]
   .rw[ow h2,ow h2,ow h1]
inductive PR(R:Nat->Nat->Prop)(L:FuncId->Bool):List PanicEntry->List PanicEntry->Prop
 | nil:PR R L [] []
 | cons {x y:PanicEntry} {a b:List PanicEntry} (hv:VR R L x.v y.v) (hr:y.recovered=x.recovered) (hg:y.goexit=x.goexit) (k:PR R L a b):PR R L (x::a) (y::b)
inductive MR(R:Nat->Nat->Prop)(L:FuncId->Bool):FrameMode->FrameMode->Prop
 | run:MR R L .run .run
 | returning:MR R L .returning .returning
 | panicking {a b:List PanicEntry} (h:PR R L a b):MR R L (.panicking a) (.panicking b)
inductive DL(R:Nat->Nat->Prop)(L:FuncId->Bool):List Deferred->List Deferred->Prop
 | nil:DL R L [] []
 | cons {x y:Deferred} {a b:List Deferred} (h:DR R L x y) (k:DL R L a b):DL R L (x::a) (y::b)
abbrev xH:=(List Deferred×Option ((Code ⊕ Nat)×List Item))×(CallKind->CallKind)×List (Nat×Value)
def O0:xH:=(([],none),id,[])
def dR:List Code->Code->Code
 | [],r=>r
 | c::l,r=>.seq c (dR l r)
def fQ:Code ⊕ Nat->List Code->Item
 | .inl r,l=>.code (dR l r)
 | .inr n,_=>.inBlock n
def okE:Code ⊕ Nat->List Code->Prop
 | .inl _,_=>True
 | .inr _,l=>l=[]
def Ak:Option ((Code ⊕ Nat)×List Item)->List Item->List Item->Prop
 | none,x,y=>y=x
 | some rk,x,y=>∃ X l,okE rk.1 l/\x=X++[.code (dR l (.refuse ""))]/\y=X++fQ rk.1 l::rk.2
theorem Ak.cons{o:Option ((Code ⊕ Nat)×List Item)}{i:Item}{k y:List Item}(h:Ak o (i::k) y):(∃ ζ,y=i::ζ/\Ak o k ζ)\/(∃ r k₀ l,o=some (r,k₀)/\okE r l/\k=[]/\i=.code (dR l (.refuse ""))/\y=fQ r l::k₀):=by
 cases o with
 | none=>exact .inl ⟨k,h,rfl⟩
 | some rk =>
  obtain⟨X,l,h0,h1,h2⟩:=h
  cases X with
  | nil =>
   simp only[yG,qbo] at h1;exact .inr ⟨rk.1,rk.2,l,rfl,h0,h1.2,h1.1,h2⟩
  | cons a X =>
   simp only[NJ,qbo] at h1;obtain⟨rfl,h1⟩:=h1;exact .inl ⟨_,h2,X,l,h0,h1,rfl⟩
theorem Ak.nil{o:Option ((Code ⊕ Nat)×List Item)}{y:List Item}(h:Ak o [] y):y=[]:=by
 cases o with
 | none=>exact h
 | some rk=>obtain⟨X,l,_,h1,_⟩:=h;cases X <;> cases h1
theorem Ak.push{o:Option ((Code ⊕ Nat)×List Item)}{x y:List Item}(h:Ak o x y)(i:Item):Ak o (i::x) (i::y):=by
 cases o with
 | none=>exact congrArg (i::·) h
 | some rk=>obtain⟨X,l,h0,rfl,rfl⟩:=h;exact⟨i::X,l,h0,rfl,rfl⟩
theorem Ak.exit{o:Option ((Code ⊕ Nat)×List Item)}{id:Nat}:∀ {x y k:List Item},Ak o x y->exitTo id x=some k->∃ ζ,exitTo id y=some ζ/\Ak o k ζ
 | [],y,k,h,he=>by simp[exitTo] at he
 | i::x,y,k,h,he=>by
  rcases h.cons with⟨ζ,rfl,hk⟩|⟨r,k₀,l,_,_,rfl,rfl,rfl⟩
  .cases i <;> simp only[exitTo] at he ⊢ <;> first|exact hk.exit he|skip
   split at he
   .rename_i hid
    rw[if_pos hid]
    cases he
    exact⟨ζ,rfl,hk⟩
   .rename_i hid
    rw[if_neg hid];exact hk.exit he
  .simp[exitTo] at he
theorem Ak.goto{o:Option ((Code ⊕ Nat)×List Item)}{l:Nat}:∀ {x y k:List Item},Ak o x y->gotoIn l x=some k->∃ ζ,gotoIn l y=some ζ/\Ak o k ζ
 | [],y,k,h,he=>by simp[gotoIn] at he
 | i::x,y,k,h,he=>by
  rcases h.cons with⟨ζ,rfl,hk⟩|⟨r,k₀,l,_,_,rfl,rfl,rfl⟩
  .cases i <;> simp only[gotoIn] at he ⊢ <;> first|exact hk.goto he|skip
   rename_i body
   cases hb:findLabel body l with
   | none=>rw[hb] at he;exact hk.goto he
   | some r=>rw[hb] at he;cases he;exact⟨_,rfl,(hk.push _).push _⟩
  .simp[gotoIn] at he
theorem Ak.calm{o:Option ((Code ⊕ Nat)×List Item)}{x y:List Item}(h:Ak o x y)(hx:∀ d b r s k,x≠.call d b r s::k):∀ d b r s k,y≠.call d b r s::k:=by
 intro d b r s k e
 cases x with
 | nil=>rw[h.nil] at e;cases e
 | cons i x =>
  rcases h.cons with⟨ζ,rfl,_⟩|⟨r',k₀,l,_,_,rfl,rfl,rfl⟩
  .injection e with e1 e2;subst e1;exact hx _ _ _ _ _ rfl
  .injection e with e1 e2;cases r' <;> cases e1
structure rF(P:Program)(R:Nat->Nat->Prop)(L:FuncId->Bool)(K:Op->Bool)(T:xH)(x y:Frame):Prop where
 fn:y.fn=x.fn
 tmps:∃ tm,AV R L x.tmps tm/\y.tmps=over T.2.2 tm
 todo:Ak T.1.2 x.todo y.todo
 items:Items P L K T.2.2 x.todo
 defers:∃ d,y.defers=d++T.1.1/\DL R L x.defers d
 mode:MR R L x.mode y.mode
 kind:y.kind=T.2.1 x.kind
 norm:x.kind=.normal\/x.kind=.deferred
 xO:y.kind=.normal\/y.kind=.deferred
 ro:x.roundOf=none
 ro':y.roundOf=none
inductive SL(P:Program)(R:Nat->Nat->Prop)(L:FuncId->Bool)(K:Op->Bool)(Z:Bool)(T:xH)(B dI:List Frame):Frame->List Frame->Frame->List Frame->Prop
 | bot {x y:Frame} (h:rF P R L K T x y) (hk:x.kind=.normal) (hz:Z=true->x.defers=[]) (hT:Z=false->T=O0):SL P R L K Z T B dI x B y dI
 | up {x y c c':Frame} {cs cs':List Frame} (h:rF P R L K O0 x y) (hz:Z=true->x.defers=[]/\c.mode=.run) (k:SL P R L K Z T B dI c cs c' cs'):SL P R L K Z T B dI x (c::cs) y (c'::cs')
section
variable {P:Program}{R R':Nat->Nat->Prop}{L:FuncId->Bool}{K:Op->Bool}{Z:Bool}{T:xH}{B dI:List Frame}{av:List (Nat×Value)}
theorem aH{x:Item}{k:List Item}:Items P L K av (x::k)↔Jr P L K av x=true/\Items P L K av k:=by simp[Items]
theorem jo{id:Nat}:∀ {k k':List Item},exitTo id k=some k'->Items P L K av k->Items P L K av k'
 | [],k',h,_=>by simp[exitTo] at h
 | x::k,k',h,hk=>by
  rw[aH] at hk
  cases x <;> simp only[exitTo] at h <;> first|exact jo h hk.2|skip
  split at h
  .cases h;exact hk.2
  .exact jo h hk.2
theorem nG:∀ {c:Code}{l:Nat}{r:Code},findLabel c l=some r->kg P L K av c=true->kg P L K av r=true
 | .seq a b,l,r,h,hc=>by
  simp only[kg,fE] at hc;simp only[findLabel] at h
  cases ha:findLabel a l with
  | some x=>rw[ha] at h;cases h;simp only[kg,fE];exact⟨nG ha hc.1,hc.2⟩
  | none=>rw[ha] at h;exact nG h hc.2
 | .label m,l,r,h,hc=>by
  simp only[findLabel] at h;split at h
  .cases h;rfl
  .cases h
 | .skip,_,_,h,_|.exit _,_,_,h,_|.goto _,_,_,h,_|.ret,_,_,h,_|.region ..,_,_,h,_|.cond ..,_,_,h,_|.block ..,_,_,h,_|.loop _,_,_,h,_|.scope _,_,_,h,_|.rangeFunc ..,_,_,h,_|.refuse _,_,_,h,_=>by simp[findLabel] at h
theorem ji{l:Nat}:∀ {k k':List Item},gotoIn l k=some k'->Items P L K av k->Items P L K av k'
 | [],k',h,_=>by simp[gotoIn] at h
 | x::k,k',h,hk=>by
  rw[aH] at hk
  cases x <;> simp only[gotoIn] at h <;> first|exact ji h hk.2|skip
  rename_i body
  cases hb:findLabel body l with
  | none=>rw[hb] at h;exact ji h hk.2
  | some r =>
   rw[hb] at h;cases h
   rw[aH,aH];exact⟨nG hb hk.1,hk.1,hk.2⟩
theorem PR.mono(hR:∀ a b,R a b->R' a b){x y:List PanicEntry}(h:PR R L x y):PR R' L x y:=by
 induction h with
 | nil=>exact .nil
 | cons hv hr hg k ih=>exact .cons (hv.mono hR) hr hg ih
theorem MR.mono(hR:∀ a b,R a b->R' a b){x y:FrameMode}(h:MR R L x y):MR R' L x y:=by
 cases h with
 | run=>exact .run
 | returning=>exact .returning
 | panicking h=>exact .panicking (h.mono hR)
theorem TR.mono(hR:∀ a b,R a b->R' a b){x y:Target}(h:TR R L x y):TR R' L x y:=by
 cases h with
 | fn f hf x y h=>exact .fn f hf x y (h.mono hR)
 | nil=>exact .nil
 | builtin b ts t cs=>exact .builtin b ts t cs
theorem DR.mono(hR:∀ a b,R a b->R' a b){x y:Deferred}(h:DR R L x y):DR R' L x y:=⟨h.target.mono hR,h.args.mono hR⟩
theorem DL.mono(hR:∀ a b,R a b->R' a b){x y:List Deferred}(h:DL R L x y):DL R' L x y:=by
 induction h with
 | nil=>exact .nil
 | cons h k ih=>exact .cons (h.mono hR) ih
theorem rF.mono(hR:∀ a b,R a b->R' a b){x y:Frame}(h:rF P R L K T x y):rF P R' L K T x y:=⟨h.fn,by obtain⟨d,h1,h2⟩:=h.tmps;exact⟨d,h1.mono hR,h2⟩,h.todo,h.items,by obtain⟨d,h1,h2⟩:=h.defers;exact⟨d,h1,h2.mono hR⟩,h.mode.mono hR,h.kind,h.norm,h.xO,h.ro,h.ro'⟩
theorem SL.mono(hR:∀ a b,R a b->R' a b){x y:Frame}{a b:List Frame}(h:SL P R L K Z T B dI x a y b):SL P R' L K Z T B dI x a y b:=by
 induction h with
 | bot h hk hz hT=>exact .bot (h.mono hR) hk hz hT
 | up h hz k ih=>exact .up (h.mono hR) hz ih
theorem SL.top{x y:Frame}{a b:List Frame}(h:SL P R L K Z T B dI x a y b):∃ T',rF P R L K T' x y/\(Z=false->T'=O0)/\∀ x' y',rF P R L K T' x' y'->x'.kind=x.kind->(Z=true->x'.defers=[])->SL P R L K Z T B dI x' a y' b:=by
 cases h with
 | bot h hk _ hT=>exact⟨T,h,hT,fun x' y' h' hk' hz=>.bot h' (hk'.trans hk) hz hT⟩
 | up h hz' kk=>exact⟨O0,h,fun _=>rfl,fun x' y' h' hk' hz=>.up h' (fun z=>⟨hz z,(hz' z).2⟩) kk⟩
theorem SL.ZR{x y:Frame}{a b:List Frame}(h:SL P R L K Z T B dI x a y b)(hz:Z=true):x.defers=[]:=by
 cases h with
 | bot _ _ k _=>exact k hz
 | up _ k _=>exact(k hz).1
theorem SL.with{x y x' y':Frame}{a b:List Frame}(h:SL P R L K Z T B dI x a y b)(k:∀ T',rF P R L K T' x y->rF P R L K T' x' y')(hk:x'.kind=x.kind)(hz:Z=true->x'.defers=[]):SL P R L K Z T B dI x' a y' b:=by
 cases h with
 | bot h hk' _ hT=>exact .bot (k _ h) (hk.trans hk') hz hT
 | up h hz' kk=>exact .up (k _ h) (fun z=>⟨hz z,(hz' z).2⟩) kk
theorem PR.app{a b c d:List PanicEntry}(h:PR R L a b)(k:PR R L c d):PR R L (a++c) (b++d):=by
 induction h with
 | nil=>exact k
 | cons hv hr hg _ ih=>exact .cons hv hr hg ih
theorem PR.drop{a b:List PanicEntry}(h:PR R L a b):PR R L (a.dropWhile (!·.goexit)) (b.dropWhile (!·.goexit)):=by
 induction h with
 | nil=>exact .nil
 | @cons x y a b hv hr hg k ih =>
  rw[qby,qby,hg];split
  .exact ih
  .exact .cons hv hr hg k
theorem rF.raise{x y:Frame}(h:rF P R L K T x y){a b:List PanicEntry}(k:PR R L a b):rF P R L K T (x.raise a) (y.raise b):=by
 obtain⟨fn,tmps,todo,defers,mode,kind,ro⟩:=x;obtain⟨fn',bQ,todo',defers',Ke,kind',ro'⟩:=y;obtain⟨h1,h2,h3,h4,h5,h6,h7,h8,h8',h9,h10⟩:=h;simp only at h1 h2 h3 h4 h5 h6 h7 h8 h8' h9 h10
 cases h6 with
 | run=>exact⟨h1,h2,h3,h4,h5,.panicking k,h7,h8,h8',h9,h10⟩
 | returning=>exact⟨h1,h2,h3,h4,h5,.panicking k,h7,h8,h8',h9,h10⟩
 | panicking h=>exact⟨h1,h2,h3,h4,h5,.panicking (k.app h),h7,h8,h8',h9,h10⟩
theorem rF.finish{x y:Frame}(h:rF P R L K T x y){v u:Value}(k:VR R L v u):rF P R L K T (x.finish v) (y.finish u):=by
 obtain⟨fn,tmps,todo,defers,mode,kind,ro⟩:=x;obtain⟨fn',bQ,todo',defers',Ke,kind',ro'⟩:=y;have h0:=h;obtain⟨h1,h2,h3,h4,h5,h6,h7,h8,h8',h9,h10⟩:=h0;simp only at h1 h2 h3 h4 h5 h6 h7 h8 h8' h9 h10;subst h1
 cases todo with
 | nil=>rw[h3.nil] at h ⊢;exact h
 | cons i l =>
  have hh:=aH.1 h4;rcases h3.cons with⟨l₁,rfl,hl₁⟩|⟨r₀,k₀,l₀,_,_,rfl,rfl,rfl⟩
  case inr=>cases r₀ <;> exact h
  cases i with
  | inRegion ops js =>
   cases js with
   | nil=>exact h
   | cons j js =>
    refine⟨rfl,?_,hl₁.push _,aH.2 ⟨hh.1,hh.2⟩,h5,h6,h7,h8,h8',h9,h10⟩;simp only[Frame.finish];obtain⟨tm,h2,h2'⟩:=h2
    cases ho:ops[j]? with
    | none=>exact⟨tm,h2,h2'⟩
    | some o =>
     simp only[Option.bind_some]
     cases hd:o.dst with
     | none=>exact⟨tm,h2,h2'⟩
     | some d =>
      refine⟨tm.setIfInBounds d u,h2.set d k,?_⟩;have ha:avD T.2.2 o.dst=true:=by
       have:=hh.1;simp only[Jr,YF] at this;obtain⟨hlt,he⟩:=fT.1 ho;have:=this j hlt;rw[he] at this;simp only[Vt,fE] at this;exact this.2.2
      rw[hd] at ha;rw[LQ _ _ _ _ ha,<-h2']
  | code c=>exact h
  | inBlock id=>exact h
  | inLoop c=>exact h
  | inScope c=>exact h
  | _=>exact absurd hh.1 (by simp[Jr])
theorem rF.eval{x y:Frame}(h:rF P R L K T x y)(hR:GB P R)(o:Operand)(ho:jL P L o=true)(ha:avX T.2.2 o=true):VR R L (x.eval o) (y.eval o):=by
 cases o with
 | tmp t =>
  obtain⟨tm,h1,h2⟩:=h.tmps;have e:y.eval (.tmp t)=tm.getD t au:=by
   show y.tmps.getD t au=_;rw[h2,Az,Az,o9 _ _ _ ha]
  rw[e];exact h1.getD t dG
 | const v=>exact yg ho
 | global g=>exact .ptr _ _ ⟨hR.gl g (by simpa[jL] using ho),rfl,rfl⟩
 | func f=>exact .func f ho #[] #[] #[] #[] rfl (fun i v w h _=>by simp at h) rfl (fun i v w h _=>by simp at h)
theorem rF.yielded{x y:Frame}(h:rF P R L K T x y)(ops:Array Oper)(ho:(ops.all fun o=>Vt T.2.2 o)=true):yielded ops x.tmps=yielded ops y.tmps:=by
 funext j;unfold Go.yielded
 cases hj:ops[j]? with
 | none=>rfl
 | some o =>
  simp only[Option.bind_some]
  cases hd:o.dst with
  | none=>rfl
  | some d =>
   simp only[Option.bind_some];obtain⟨tm,h1,h2⟩:=h.tmps;have ha:avD T.2.2 o.dst=true:=by
    rw[YF] at ho;obtain⟨hlt,he⟩:=fT.1 hj;have:=ho j hlt;rw[he] at this;simp only[Vt,fE] at this;exact this.2
   rw[hd] at ha;rw[h2,o9 _ _ _ ha];rcases h1.get d with⟨h1,h2⟩|⟨v,u,h1,h2,h3⟩
   .rw[h1,h2]
   .rw[h1,h2]
    cases h3 <;> rfl
theorem qP(x:Frame)(a:List PanicEntry):(x.raise a).kind=x.kind/\(x.raise a).defers=x.defers:=by
 unfold Frame.raise;split <;> exact⟨rfl,rfl⟩
theorem nZ(x:Frame)(v:Value):(x.finish v).kind=x.kind/\(x.finish v).defers=x.defers/\(x.finish v).mode=x.mode:=by
 unfold Frame.finish;split <;> exact⟨rfl,rfl,rfl⟩
theorem SL.finish{x y:Frame}{a b:List Frame}(h:SL P R L K Z T B dI x a y b){v u:Value}(hv:VR R L v u):SL P R L K Z T B dI (x.finish v) a (y.finish u) b :=h.with (fun _ k=>k.finish hv) (nZ x v).1 fun hz=>(nZ x v).2.1.trans (h.ZR hz)
theorem SL.raise{x y:Frame}{a b:List Frame}(h:SL P R L K Z T B dI x a y b){c d:List PanicEntry}(hv:PR R L c d):SL P R L K Z T B dI (x.raise c) a (y.raise d) b :=h.with (fun _ k=>k.raise hv) (qP x c).1 fun hz=>(qP x c).2.trans (h.ZR hz)
theorem Am(hZ:Z=false){x y:Frame}{a b:List Frame}(hc:SL P R L K Z T B dI x a y b):(tryRecover x a=none/\tryRecover y b=none)\/∃ v u a' b',tryRecover x a=some (v,a')/\tryRecover y b=some (u,b')/\VR R L v u/\SL P R L K Z T B dI x a' y b':=by
 obtain⟨T',h,hT',_⟩:=hc.top;have hT':=hT' hZ;subst hT';have hkk:y.kind=x.kind:=h.kind;rcases h.norm with hk|hk
 .left
  have hk':=hkk.trans hk;constructor
  .unfold tryRecover;rw[hk]
  .unfold tryRecover;rw[hk']
 .have hk':=hkk.trans hk
  cases hc with
  | bot _ hn _ _=>rw[hk] at hn;cases hn
  | @up _ _ c d a b h hz k =>
   obtain⟨T₂,hcd,ahH,_⟩:=k.top;have hcm:∀ m m',MR R L m m'->SL P R L K Z T B dI {c with mode:=m} a {d with mode:=m'} b:=fun m m' hm =>
    k.with (fun _ hcd=>⟨hcd.fn,hcd.tmps,hcd.todo,hcd.items,hcd.defers,hm,hcd.kind,hcd.norm,hcd.xO,hcd.ro,hcd.ro'⟩) rfl fun z=>k.ZR z
   have hmm:=hcd.mode;generalize hm1:c.mode=m at hmm;generalize hm2:d.mode=m' at hmm
   cases hmm with
   | run=>left;constructor <;> (unfold tryRecover;simp only[hk,hk',hm1,hm2])
   | returning=>left;constructor <;> (unfold tryRecover;simp only[hk,hk',hm1,hm2])
   | panicking hp =>
    cases hp with
    | nil=>left;constructor <;> (unfold tryRecover;simp only[hk,hk',hm1,hm2])
    | @cons p q ps qs hv hr hg kk =>
     obtain⟨pv,pr,pg⟩:=p;obtain⟨qv,qr,qg⟩:=q;simp only at hv hr hg;subst hr hg
     cases qr with
     | true=>left;constructor <;> (unfold tryRecover;simp only[hk,hk',hm1,hm2])
     | false=>cases qg with
      | true=>left;constructor <;> (unfold tryRecover;simp only[hk,hk',hm1,hm2])
      | false =>
       right
       refine⟨pv,qv,_,_,by unfold tryRecover;simp only[hk,hm1];rfl,by unfold tryRecover;simp only[hk',hm2];rfl,hv,.up h (fun z=>by rw[hZ] at z;cases z) ?_⟩;exact hcm _ _ (.panicking (.cons (x:=⟨pv,true,false⟩) (y:=⟨qv,true,false⟩) hv rfl rfl kk))
inductive SG(P:Program)(R:Nat->Nat->Prop)(L:FuncId->Bool)(K:Op->Bool)(Z:Bool)(T:xH)(B dI:List Frame):GStep->GStep->Prop
 | go {fr aB:Frame} {cs χ:List Frame} {w ω:World} {es η:Array Event} (hc:SL P R L K Z T B dI fr cs aB χ):SG P R L K Z T B dI (.go (G fr cs) w es) (.go (G aB χ) ω η)
 | comm {fr aB:Frame} {cs χ:List Frame} {w ω:World} {es η:Array Event} {x y:Array CommCase} (hz:Z=false) (hc:SL P R L K Z T B dI fr cs aB χ) (hx:CV R L x y) (b:Bool) (s:CommShape):SG P R L K Z T B dI (.comm (G fr cs) x b s w es) (.comm (G aB χ) y b s ω η)
def gw:GStep->World
 | .go _ w _|.comm _ _ _ _ w _|.spawn _ _ w _|.count _ w _|.timer _ _ w _|.alone _ _ w _|.newcoro _ _ _ w _|.coroswitch _ _ _ w _|.collect _ w _|.watch _ w _|.ended _ w _=>w
def oF:GStep->Prop
 | .ended ..=>True
 | _=>False
theorem lT(es:Array Event)(s:GStep):gw (s.after es)=gw s:=by cases s <;> rfl
theorem Wd.refl{w ω:World}(h:HR R L w.heap ω.heap):Wd R L w ω w ω #[] #[] #[] #[]:=⟨h,rfl,aY _,by simp,fun _ _ _=>rfl,fun _ _ _=>rfl,nP.nil _ _⟩
theorem O6{n:Nat}{g es:Array Event}(h:nP R n #[] g #[] es)(fn:FuncId):nP R n #[] (seen P fn g) #[] (seen P fn es):=by
 obtain⟨l,rfl,rfl,hl⟩:=h;unfold Go.seen;dsimp only
 have key:∀ (l:List (Event×Event)),(∀ p∈l,Vh R n p.1 p.2)->∀ (q:Bool)(k k':Array Event),nP R n #[] k #[] k' ->
   let f:Bool×Array Event->Event->Bool×Array Event:=fun x e=>match e.loc with
    | .mark (.extern f)=>((P.funcs[f]?).any (·.norace),x.2)
    | _=>(x.1,if x.1&&!e.sync then x.2 else x.2.push e)
   (List.foldl f (q,k) (l.map (·.1))).1=(List.foldl f (q,k') (l.map (·.2))).1/\nP R n #[] (List.foldl f (q,k) (l.map (·.1))).2 #[] (List.foldl f (q,k') (l.map (·.2))).2:=by
  intro l
  induction l with
  | nil=>intro _ q k k' hk;exact⟨rfl,hk⟩
  | cons p l ih =>
   intro hl q k k' hk;have hp:=hl p (by simp);have hl':=fun x hx=>hl x (List.mem_cons_of_mem _ hx)
   obtain⟨e,Θ⟩:=p;simp only at hp;simp only[qcf,Xu]
   cases hp with
   | cell a b wr h hn =>
    refine ih hl' q _ _ ?_
    cases q
    .exact hk.trans (.one _ _ (.cell a b wr h hn)) (aY _)
    .exact hk
   | obj r r' wr h hn =>
    refine ih hl' q _ _ ?_
    cases q
    .exact hk.trans (.one _ _ (.obj r r' wr h hn)) (aY _)
    .exact hk
   | mark m hm =>
    cases m <;> first
     |(cases hm;done)
     | exact ih hl' _ _ _ hk
     |(
      refine ih hl' q _ _ ?_
      cases q
      .exact hk.trans (.one _ _ (.mark _ hm)) (aY _)
      .exact hk.trans (.one _ _ (.mark _ hm)) (aY _))
 have:=(key l hl ((P.funcs[fn]?).any (·.norace)) #[] #[] (nP.nil _ _)).2;simp only[Array.empty_append,rJ,List.foldl_toArray'];exact this
theorem Wd.seen{w ω w' ω':World}{g es:Array Event}(h:Wd R L w ω w' ω' #[] g #[] es){fn fn₁:FuncId}(hf:fn₁=fn):Wd R L w ω w' ω' #[] (seen P fn g) #[] (seen P fn₁ es):=by
 subst hf;exact⟨h.heap,h.size,h.grow,h.world,h.frame,h.Dm,O6 h.ev _⟩
theorem Gj(hK:vB P L K){f:FuncId}(hf:L f=true)(hF:fK P f){x y:Array Value}(h:AV R L x y){k:CallKind}(hk:k=.normal\/k=.deferred):rF P R L K O0 (Frame.enter P f x k) (Frame.enter P f y k):=by
 refine⟨rfl,?_,rfl,?_,⟨[],rfl,.nil⟩,.run,rfl,hk,hk,rfl,rfl⟩
 .unfold Frame.enter;dsimp only
  rw[<-h.1];exact⟨_,h.app (AV.abx _ dG),rfl⟩
 .intro i hi;unfold Frame.enter at hi;simp only[qbk] at hi;subst hi;rcases hF.1 with h1|⟨fn,h1,_⟩
  .rw[h1];rfl
  rw[h1];simp only[Option.bind_some]
  cases hb:fn.body with
  | none=>rfl
  | some c=>exact hK f hf fn c h1 hb
def ext(R:Nat->Nat->Prop)(n Γ k:Nat)(a b:Nat):Prop:=R a b\/∃ i,i<k/\a=n+i/\b=Γ+i
def FZ(R:Nat->Nat->Prop)(n Γ:Nat):Prop:=∀ a b,R a b->a<n/\b<Γ
theorem vM{n Γ k:Nat}:∀ a b,R a b->ext R n Γ k a b:=fun a b h=>.inl h
theorem GB.ext(hR:GB P R){n Γ:Nat}(hb:FZ R n Γ)(k:Nat):GB P (ext R n Γ k) where
 inj:=fun a a' b h h'=>by
  rcases h with h|⟨i,hi,rfl,rfl⟩
  .rcases h' with h'|⟨j,hj,rfl,rfl⟩
   .exact hR.inj _ _ _ h h'
   .have:=(hb _ _ h).2;omega
  .rcases h' with h'|⟨j,hj,rfl,e⟩
   .have:=(hb _ _ h').2;omega
   .omega
 fn:=fun a b b' h h'=>by
  rcases h with h|⟨i,hi,rfl,rfl⟩
  .rcases h' with h'|⟨j,hj,rfl,rfl⟩
   .exact hR.fn _ _ _ h h'
   .have:=(hb _ _ h).1;omega
  .rcases h' with h'|⟨j,hj,e,rfl⟩
   .have:=(hb _ _ h').1;omega
   .omega
 g1:=fun g hg b h=>by
  rcases h with h|⟨i,hi,e,rfl⟩
  .exact hR.g1 g hg b h
  .have:=(hb _ _ (hR.gl g hg)).1;omega
 g2:=fun g hg a h=>by
  rcases h with h|⟨i,hi,rfl,e⟩
  .exact hR.g2 g hg a h
  .have:=(hb _ _ (hR.gl g hg)).2;omega
 gl:=fun g hg=>.inl (hR.gl g hg)
theorem HR.ext{h h':Array Obj}(hh:HR R L h h')(k:Nat):HR (ext R h.size h'.size k) L h h':=by
 refine⟨fun b b' hb=>?_,hh.opq,fun a b hb=>?_⟩
 .rcases hb with hb|⟨i,hi,rfl,rfl⟩
  .exact(hh b b' hb).mono vM
  .rw[MW (by omega),MW (by omega)];exact .none
 .rcases hb with hb|⟨i,hi,rfl,rfl⟩
  .exact hh.Af a b hb
  .constructor
   .cases hl:L (2*(h.size+i)+1000000001) with
    | false=>rfl
    | true =>
     obtain⟨c,e,h1,_⟩:=hh.opq (h.size+i) hl;have:=(fT.1 h1).1;omega
   .cases hl:L (2*(h'.size+i)+1000000001) with
    | false=>rfl
    | true =>
     obtain⟨c,e,_,h1⟩:=hh.opq (h'.size+i) hl;have:=(fT.1 h1).1;omega
def Tape(w ω:World)(n:Nat):Prop:=∀ i,w.drawn+i<n->ω.tape (ω.drawn+i)=w.tape (w.drawn+i)
theorem Bc{α:Type}(hR:GB P R){w ω:World}(hb:FZ R w.heap.size ω.heap.size)(hh:HR R L w.heap ω.heap){s t:Sem α}{C:(Nat->Nat->Prop)->α->α->Prop}(hs:∀ R',GB P R'->(∀ a b,R a b->R' a b)->Dso R' L->SR P R' L (C R') s t){r:Result α}{es':Array Event}(hr:s.runT P w #[]=(r,es'))(ht:Tape w ω (rw r).drawn)(hg:¬ Gt r):∃ k ι η,(rw r).heap.size=w.heap.size+k/\t.runT P ω #[]=(ι,η)/\Sim (ext R w.heap.size ω.heap.size k) L (C (ext R w.heap.size ω.heap.size k)) w ω r ι #[] es' #[] η:=by
 have hgr:=iI hr;have hG:=hR.ext hb ((rw r).heap.size-w.heap.size);obtain⟨ι,η,h1,h2⟩:=jg hG.toPB (hs _ hG vM (hh.ext _).Af) #[] hr hg (hh.ext _) (fun i hi=>.inr ⟨i,by omega,rfl,rfl⟩) ht;exact⟨(rw r).heap.size-w.heap.size,ι,η,by omega,h1,h2⟩
theorem Hz{α:Type}(hR:GB P R){w ω:World}(hb:FZ R w.heap.size ω.heap.size)(hh:HR R L w.heap ω.heap){s t:Sem α}{C:(Nat->Nat->Prop)->α->α->Prop}(hs:∀ R',GB P R'->(∀ a b,R a b->R' a b)->Dso R' L->SR P R' L (C R') s t){r:Result α}{es':Array Event}(hr:s.runT P w #[]=(r,es'))(hg:¬ Gt r):∃ R' ι,RR R' L (C R') r ι:=by
 obtain⟨k,ι,η,_,_,h⟩:=Bc (ω:={ω with tape:=fun j=>w.tape (w.drawn+(j-ω.drawn))}) hR hb hh hs hr (fun i _=>by simp only[qbu]) hg;exact⟨_,ι,h.res⟩
def Stp(P:Program)(R:Nat->Nat->Prop)(L:FuncId->Bool)(K:Op->Bool)(Z:Bool)(T:xH)(B dI:List Frame)(w ω:World)(s s₁:GStep):Prop :=∃ k,(gw s).heap.size=w.heap.size+k/\SG P (ext R w.heap.size ω.heap.size k) L K Z T B dI s s₁/\Wd (ext R w.heap.size ω.heap.size k) L w ω (gw s) (gw s₁) #[] s.es #[] s₁.es
theorem Dv{fr aB:Frame}{cs χ:List Frame}{w ω:World}(hh:HR R L w.heap ω.heap)(hc:SL P R L K Z T B dI fr cs aB χ):Stp P R L K Z T B dI w ω (.go (G fr cs) w #[]) (.go (G aB χ) ω #[]) :=⟨0,rfl,.go (hc.mono vM),Wd.refl (hh.ext 0)⟩
theorem Rz{fr:Frame}(hi:Items P L K av fr.todo):(match fr.todo with|.call _ true _ _::_=>CallKind.wrapped|_=>CallKind.normal)=CallKind.normal:=by
 cases h:fr.todo with
 | nil=>rfl
 | cons x k =>
  rw[h] at hi
  cases x <;> first|rfl|exact absurd (aH.1 hi).1 (by simp[Jr])
theorem Qr{fr:Frame}(hi:Items P L K av fr.todo):∀ d b r s k,fr.todo≠.call d b r s::k:=by
 intro d b r s k e;rw[e] at hi;exact absurd (aH.1 hi).1 (by simp[Jr])
theorem RU{t:List Item}(h:∀ d b r s k,t≠.call d b r s::k):(match (generalizing:=false) t with|.call _ true _ _::_=>CallKind.wrapped|_=>CallKind.normal)=CallKind.normal:=by
 cases t with
 | nil=>rfl
 | cons i t=>cases i <;> first|rfl|exact absurd rfl (h _ _ _ _ _)
theorem vT{fr:Frame}(h:fr.kind=.normal\/fr.kind=.deferred):(fr.kind==CallKind.early)=false:=by rcases h with h|h <;> rw[h] <;> rfl
theorem SI(hR:GB P R)(hK:vB P L K)(hL:∀ f,L f=true->fK P f){fr aB:Frame}{cs χ:List Frame}{w ω:World}{s t:Sem Next}(hb:FZ R w.heap.size ω.heap.size)(hh:HR R L w.heap ω.heap)(hc:SL P R L K Z T B dI fr cs aB χ)(hm:fr.mode=.run)(hs:∀ R',GB P R'->(∀ a b,R a b->R' a b)->Dso R' L->SR P R' L (NR R' L Z) s t)(hlive:¬ oF (stepG.apply P true fr cs none s w))(ht:Tape w ω (gw (stepG.apply P true fr cs none s w)).drawn):Stp P R L K Z T B dI w ω (stepG.apply P true fr cs none s w) (stepG.apply P true aB χ none t ω):=by
 obtain⟨T',hf,hT',hput⟩:=hc.top;have k1:=Rz hf.items;have k2:=RU (hf.todo.calm (Qr hf.items));have e1:=vT hf.norm;have e2:=vT (fr:=aB) hf.xO
 cases hr:s.runT P w #[] with
 | mk r es' =>
 by_cases hft:Gt r
 .refine absurd ?_ hlive;unfold stepG.apply;simp only[hr,if_true,e1,jI,if_false]
  cases r with
  | ok a w'=>exact hft.elim
  | halt h w' =>
   cases h <;> first|exact hft.elim|trivial|skip
   rename_i u
   cases u <;> first|exact hft.elim|trivial
 .have hgw:gw (stepG.apply P true fr cs none s w)=rw r:=by
   obtain⟨R',ι,hrr⟩:=Hz (C:=fun R'=>NR R' L Z) hR hb hh hs hr hft;unfold stepG.apply;simp only[hr,if_true,e1,jI,if_false]
   cases hrr with
   | panic hv=>exact lT _ _
   | ok hab=>cases hab with
    | recover =>
     dsimp only
     rw[lT];split <;> rfl
    | _=>exact lT _ _
  rw[hgw] at ht;obtain⟨k,ι,η,hk,jc,Ky⟩:=Bc (C:=fun R'=>NR R' L Z) hR hb hh hs hr ht hft;have hwd:=Ky.toWd;have hres:=Ky.res;have hc':=hc.mono (R':=ext R w.heap.size ω.heap.size k) vM
  cases hres with
  | @panic v u w' ω' hv =>
   have hA:stepG.apply P true fr cs none s w=.go (G (fr.raise [{v,recovered:=false}]) cs) w' (seen P fr.fn es'):=by
    unfold stepG.apply;simp only[hr,if_true,e1,jI,if_false];show GStep.after _ _=_;simp[GStep.after,G]
   have hB:stepG.apply P true aB χ none t ω=.go (G (aB.raise [{v:=u,recovered:=false}]) χ) ω' (seen P aB.fn η):=by
    unfold stepG.apply;simp only[jc,if_true,e2,jI,if_false];show GStep.after _ _=_;simp[GStep.after,G]
   rw[hA,hB];exact⟨k,hk,.go (hc'.raise (.cons hv rfl rfl .nil)),hwd.seen hf.fn⟩
  | @ok a b w' ω' hab =>
   cases hab with
   | @value v u hv =>
    have hA:stepG.apply P true fr cs none s w=.go (G (fr.finish v) cs) w' (seen P fr.fn es'):=by
     unfold stepG.apply;simp only[hr,if_true,e1,jI,if_false];show GStep.after _ _=_;simp[GStep.after,G]
    have hB:stepG.apply P true aB χ none t ω=.go (G (aB.finish u) χ) ω' (seen P aB.fn η):=by
     unfold stepG.apply;simp only[jc,if_true,e2,jI,if_false];show GStep.after _ _=_;simp[GStep.after,G]
    rw[hA,hB];exact⟨k,hk,.go (hc'.finish hv),hwd.seen hf.fn⟩
   | skip =>
    have hA:stepG.apply P true fr cs none s w=.go (G (fr.finish au) cs) w' (seen P fr.fn es'):=by
     unfold stepG.apply;simp only[hr,if_true,e1,jI,if_false];show GStep.after _ _=_;simp[GStep.after,G]
    have hB:stepG.apply P true aB χ none t ω=.go (G (aB.finish au) χ) ω' (seen P aB.fn η):=by
     unfold stepG.apply;simp only[jc,if_true,e2,jI,if_false];show GStep.after _ _=_;simp[GStep.after,G]
    rw[hA,hB];exact⟨k,hk,.go (hc'.finish dG),hwd.seen hf.fn⟩
   | @enter f hLf x y hxy =>
    have hA:stepG.apply P true fr cs none s w=.go (G (Frame.enter P f x .normal) (fr::cs)) w' (seen P fr.fn es'):=by
     unfold stepG.apply;simp only[hr,if_true,e1,jI,if_false];show GStep.after _ _=_;simp[GStep.after,G];exact congrArg (Frame.enter P f x) k1
    have hB:stepG.apply P true aB χ none t ω=.go (G (Frame.enter P f y .normal) (aB::χ)) ω' (seen P aB.fn η):=by
     unfold stepG.apply;simp only[jc,if_true,e2,jI,if_false];show GStep.after _ _=_;simp[GStep.after,G];exact congrArg (Frame.enter P f y) k2
    rw[hA,hB];exact⟨k,hk,.go (.up (Gj hK hLf (hL f hLf) hxy (.inl rfl)) (fun _=>⟨rfl,hm⟩) hc'),hwd.seen hf.fn⟩
   | @defer x y hZ hxy =>
    have hA:stepG.apply P true fr cs none s w=.go (G ({fr with defers:=x::fr.defers}.finish au) cs) w' (seen P fr.fn es'):=by
     unfold stepG.apply;simp only[hr,if_true,e1,jI,if_false];show GStep.after _ _=_;simp[GStep.after,G]
    have hB:stepG.apply P true aB χ none t ω=.go (G ({aB with defers:=y::aB.defers}.finish au) χ) ω' (seen P aB.fn η):=by
     unfold stepG.apply;simp only[jc,if_true,e2,jI,if_false];show GStep.after _ _=_;simp[GStep.after,G]
    rw[hA,hB];refine⟨k,hk,.go (SL.finish ?_ dG),hwd.seen hf.fn⟩;exact hc'.with (fun _ hf'=>⟨hf'.fn,hf'.tmps,hf'.todo,hf'.items,by obtain⟨d,h1,h2⟩:=hf'.defers;exact⟨_::d,by rw[h1];rfl,.cons hxy h2⟩,hf'.mode,hf'.kind,hf'.norm,hf'.xO,hf'.ro,hf'.ro'⟩) rfl fun z=>by rw[hZ] at z;cases z
   | recover Zq =>
    rcases Am Zq hc' with⟨n1,n2⟩|⟨v,u,a',b',n1,n2,n3,n4⟩
    .have hA:stepG.apply P true fr cs none s w=.go (G (fr.finish .nilIface) cs) w' (seen P fr.fn es'):=by
      unfold stepG.apply;simp only[hr,if_true,e1,jI,if_false,hf.ro,n1];show GStep.after _ _=_;simp[GStep.after,G]
     have hB:stepG.apply P true aB χ none t ω=.go (G (aB.finish .nilIface) χ) ω' (seen P aB.fn η):=by
      unfold stepG.apply;simp only[jc,if_true,e2,jI,if_false,hf.ro',n2];show GStep.after _ _=_;simp[GStep.after,G]
     rw[hA,hB];exact⟨k,hk,.go (hc'.finish .nilIface),hwd.seen hf.fn⟩
    .have hA:stepG.apply P true fr cs none s w=.go (G (fr.finish v) a') w' (seen P fr.fn es'):=by
      unfold stepG.apply;simp only[hr,if_true,e1,jI,if_false,hf.ro,n1];show GStep.after _ _=_;simp[GStep.after,G]
     have hB:stepG.apply P true aB χ none t ω=.go (G (aB.finish u) b') ω' (seen P aB.fn η):=by
      unfold stepG.apply;simp only[jc,if_true,e2,jI,if_false,hf.ro',n2];show GStep.after _ _=_;simp[GStep.after,G]
     rw[hA,hB];exact⟨k,hk,.go (n4.finish n3),hwd.seen hf.fn⟩
   | @comm hzc x y hxy bl sh =>
    have hA:stepG.apply P true fr cs none s w=.comm (G fr cs) x bl sh w' (seen P fr.fn es'):=by
     unfold stepG.apply;simp only[hr,if_true,e1,jI,if_false];show GStep.after _ _=_;simp[GStep.after,G]
    have hB:stepG.apply P true aB χ none t ω=.comm (G aB χ) y bl sh ω' (seen P aB.fn η):=by
     unfold stepG.apply;simp only[jc,if_true,e2,jI,if_false];show GStep.after _ _=_;simp[GStep.after,G]
    rw[hA,hB];exact⟨k,hk,.comm hzc hc' hxy bl sh,hwd.seen hf.fn⟩
theorem gQ{fr aB fr' bC:Frame}{cs χ cs' dA:List Frame}{w ω:World}{main dK:Bool}(hh:HR R L w.heap ω.heap)(e:stepG P main (G fr cs) w=.go (G fr' cs') w #[])(Θ:stepG P dK (G aB χ) ω=.go (G bC dA) ω #[])(hc:SL P R L K Z T B dI fr' cs' bC dA):Stp P R L K Z T B dI w ω (stepG P main (G fr cs) w) (stepG P dK (G aB χ) ω):=by
 rw[e,Θ];exact Dv hh hc
def Fr(fn:FuncId)(tmps:Array Value)(todo:List Item)(ds:List Deferred)(k:CallKind):Frame:={fn,tmps,todo,defers:=ds,mode:=.run,kind:=k}
def Fx(fn:FuncId)(tmps:Array Value)(todo:List Item)(ds:List Deferred)(k:CallKind):Frame:={fn,tmps,todo,defers:=ds,mode:=.returning,kind:=k}
theorem rF.split{x y:Frame}(h:rF P R L K T x y)(hm:x.mode=.run):∃ fn tmps bQ todo todo' ds ds' k k',x=Fr fn tmps todo ds k/\y=Fr fn bQ todo' ds' k'/\Items P L K T.2.2 todo/\Ak T.1.2 todo todo':=by
 obtain⟨fn,tmps,todo,defers,mode,kind,ro⟩:=x;obtain⟨fn',bQ,todo',defers',Ke,kind',ro'⟩:=y;obtain⟨h1,h2,h3,h4,h5,h6,h7,h8,h8',h9,h10⟩:=h;simp only at h1 h2 h3 h4 h5 h6 h7 h8 h8' h9 h10 hm;subst h1 h9 h10 hm
 cases h6
 exact⟨_,_,_,_,_,_,_,_,_,rfl,rfl,h4,h3⟩
theorem rF.todo'{fn:FuncId}{tmps bQ:Array Value}{todo xM todo' J5:List Item}{ds ds':List Deferred}{k k':CallKind}(h:rF P R L K T (Fr fn tmps todo ds k) (Fr fn bQ xM ds' k'))(h4:Items P L K T.2.2 todo')(h5:Ak T.1.2 todo' J5):rF P R L K T (Fr fn tmps todo' ds k) (Fr fn bQ J5 ds' k') :=⟨rfl,h.tmps,h5,h4,h.defers,.run,h.kind,h.norm,h.xO,rfl,rfl⟩
theorem rF.leave{fn:FuncId}{tmps bQ:Array Value}{todo xM:List Item}{ds ds':List Deferred}{k k':CallKind}(h:rF P R L K T (Fr fn tmps todo ds k) (Fr fn bQ xM ds' k')):rF P R L K T (Fx fn tmps todo ds k) (Fx fn bQ xM ds' k') :=⟨rfl,h.tmps,h.todo,h.items,h.defers,.returning,h.kind,h.norm,h.xO,rfl,rfl⟩
def dS(P:Program)(L:FuncId->Bool)(Z:Bool)(fr:Frame):Prop:=match fr.mode with
 | .run=>∀ ops i l k o,fr.todo=.inRegion ops (i::l)::k->ops[i]? = some o->Region.wanted o (yielded ops fr.tmps)=true->bT P L o.op=true/\(∀ x,o.op=.panic x->fr.eval x≠.nilIface)/\(∀ c,o.op=.defer c->Z=false)/\(∀ c b,o.op=.select c b->Z=false)/\∀ c,o.op=.call c->c.callee=.builtin .recover->Z=false
 | _=>∀ d ds b ts t c,fr.defers=d::ds->d.target=.builtin b ts t c->(b=.unsafeString/\d.args.size=2)\/okB P ts b=true
theorem NY(hR:GB P R)(hL:∀ f,L f=true->fK P f)(hD:Dso R L){x y:Frame}(h:rF P R L K T x y){o:Oper}(AY:o.op.operands.all (avX T.2.2)=true)(hT:Z=false->T=O0)(ho:bT P L o.op=true)(hp:∀ v,o.op=.panic v->x.eval v≠.nilIface)(hz:∀ c,o.op=.defer c->Z=false)(hz':∀ c b,o.op=.select c b->Z=false)(Zq:∀ c,o.op=.call c->c.callee=.builtin .recover->Z=false):SR P R L (NR R L Z) (execOp x.eval o) (execOp y.eval o):=by
 by_cases hs:∃ c b,o.op=.select c b
 .obtain⟨c,b,hsel⟩:=hs;have:=hT (hz' c b hsel);subst this;exact GN hR hL (fun v hv=>h.eval hR v hv (by cases v <;> rfl)) (Vj hL hD) ho hp hz hz' Zq
 .
  obtain⟨tm,h1,h2⟩:=h.tmps;have e:execOp y.eval o=execOp ({y with tmps:=tm}:Frame).eval o:=by
   refine execOp_congr o (fun c b hc=>hs ⟨c,b,hc⟩) fun v hv=>?_
   have ha:avX T.2.2 v=true:=by
    rw[qbO] at AY;exact AY v hv
   cases v with
   | tmp t =>
    show y.tmps.getD t au=tm.getD t au;rw[h2,Az,Az,o9 _ _ _ ha]
   | _=>rfl
  rw[e];refine GN hR hL (fun v hv=>?_) (Vj hL hD) ho hp hz hz' Zq
  cases v with
  | tmp t=>exact h1.getD t dG
  | const v=>exact yg hv
  | global g=>exact .ptr _ _ ⟨hR.gl g (by simpa[jL] using hv),rfl,rfl⟩
  | func f=>exact .func f hv #[] #[] #[] #[] rfl (fun i v w h _=>by simp at h) rfl (fun i v w h _=>by simp at h)
theorem aan(hR:GB P R)(hK:vB P L K)(hL:∀ f,L f=true->fK P f){main dK:Bool}{fr aB:Frame}{cs χ:List Frame}{w ω:World}(hb:FZ R w.heap.size ω.heap.size)(hh:HR R L w.heap ω.heap)(hc:SL P R L K Z T B dI fr cs aB χ)(hm:fr.mode=.run)(hn:dS P L Z fr)(hlive:¬ oF (stepG P main (G fr cs) w))(ht:Tape w ω (gw (stepG P main (G fr cs) w)).drawn):Stp P R L K Z T B dI w ω (stepG P main (G fr cs) w) (stepG P dK (G aB χ) ω):=by
 obtain⟨T',hf,hT',hput⟩:=hc.top;obtain⟨fn,tmps,bQ,todo,xM,ds,ds',kd,kd',rfl,rfl,hi,htd⟩:=hf.split hm
 have mv:∀ a Δ,Items P L K T'.2.2 a->Ak T'.1.2 a Δ->SL P R L K Z T B dI (Fr fn tmps a ds kd) cs (Fr fn bQ Δ ds' kd') χ:=fun a Δ h h'=>hput _ _ (hf.todo' h h') rfl fun z=>hc.ZR z
 cases todo with
 | nil =>
  have:=htd.nil;subst this;exact gQ (fr':=Fx fn tmps [] ds kd) (bC:=Fx fn bQ [] ds' kd') hh (by simp[stepG,stepG.exec,Fr,Fx,G]) (by simp[stepG,stepG.exec,Fr,Fx,G]) (hc.with (fun _ k=>k.leave) rfl fun z=>hc.ZR z)
 | cons x k =>
  obtain⟨hx,hk⟩:=aH.1 hi;rcases htd.cons with⟨ζ,rfl,υ⟩|⟨r₀,k₀,l₀,ho,hoe,rfl,rfl,rfl⟩
  case inr =>
   cases l₀ with
   | nil=>exact absurd (by simp[stepG,stepG.exec,Fr,G,oF,dR]) hlive
   | cons c l =>
    cases r₀ with
    | inr _=>cases hoe
    | inl r₀ =>
    have hx':kg P L K T'.2.2 (.seq c (dR l (.refuse "")))=true:=hx;simp only[kg,fE] at hx';exact gQ (fr':=Fr fn tmps [.code c,.code (dR l (.refuse ""))] ds kd) (bC:=Fr fn bQ (.code c::.code (dR l r₀)::k₀) ds' kd') hh (by simp[stepG,stepG.exec,Fr,G,dR]) (by simp[stepG,stepG.exec,Fr,G,dR,fQ]) (mv _ _ (aH.2 ⟨hx'.1,aH.2 ⟨hx'.2,hk⟩⟩) (by rw[ho];exact⟨[.code c],l,trivial,rfl,rfl⟩))
  cases x with
  | inBlock id=>exact gQ (fr':=Fr fn tmps k ds kd) (bC:=Fr fn bQ ζ ds' kd') hh (by simp[stepG,stepG.exec,Fr,G]) (by simp[stepG,stepG.exec,Fr,G]) (mv _ _ hk υ)
  | inScope c=>exact gQ (fr':=Fr fn tmps k ds kd) (bC:=Fr fn bQ ζ ds' kd') hh (by simp[stepG,stepG.exec,Fr,G]) (by simp[stepG,stepG.exec,Fr,G]) (mv _ _ hk υ)
  | inLoop c=>exact gQ (fr':=Fr fn tmps (.code c::.inLoop c::k) ds kd) (bC:=Fr fn bQ (.code c::.inLoop c::ζ) ds' kd') hh (by simp[stepG,stepG.exec,Fr,G]) (by simp[stepG,stepG.exec,Fr,G]) (mv _ _ (aH.2 ⟨hx,aH.2 ⟨hx,hk⟩⟩) ((υ.push _).push _))
  | code c =>
   cases c with
   | skip=>exact gQ (fr':=Fr fn tmps k ds kd) (bC:=Fr fn bQ ζ ds' kd') hh (by simp[stepG,stepG.exec,Fr,G]) (by simp[stepG,stepG.exec,Fr,G]) (mv _ _ hk υ)
   | label l=>exact gQ (fr':=Fr fn tmps k ds kd) (bC:=Fr fn bQ ζ ds' kd') hh (by simp[stepG,stepG.exec,Fr,G]) (by simp[stepG,stepG.exec,Fr,G]) (mv _ _ hk υ)
   | ret=>exact gQ (fr':=Fx fn tmps (.code .ret::k) ds kd) (bC:=Fx fn bQ (.code .ret::ζ) ds' kd') hh (by simp[stepG,stepG.exec,Fr,Fx,G]) (by simp[stepG,stepG.exec,Fr,Fx,G]) (hc.with (fun _ k=>k.leave) rfl fun z=>hc.ZR z)
   | seq a b =>
    simp only[Jr,kg,fE] at hx;exact gQ (fr':=Fr fn tmps (.code a::.code b::k) ds kd) (bC:=Fr fn bQ (.code a::.code b::ζ) ds' kd') hh (by simp[stepG,stepG.exec,Fr,G]) (by simp[stepG,stepG.exec,Fr,G]) (mv _ _ (aH.2 ⟨hx.1,aH.2 ⟨hx.2,hk⟩⟩) ((υ.push _).push _))
   | block id a=>exact gQ (fr':=Fr fn tmps (.code a::.inBlock id::k) ds kd) (bC:=Fr fn bQ (.code a::.inBlock id::ζ) ds' kd') hh (by simp[stepG,stepG.exec,Fr,G]) (by simp[stepG,stepG.exec,Fr,G]) (mv _ _ (aH.2 ⟨hx,aH.2 ⟨rfl,hk⟩⟩) ((υ.push _).push _))
   | loop a=>exact gQ (fr':=Fr fn tmps (.code a::.inLoop a::k) ds kd) (bC:=Fr fn bQ (.code a::.inLoop a::ζ) ds' kd') hh (by simp[stepG,stepG.exec,Fr,G]) (by simp[stepG,stepG.exec,Fr,G]) (mv _ _ (aH.2 ⟨hx,aH.2 ⟨hx,hk⟩⟩) ((υ.push _).push _))
   | scope a=>exact gQ (fr':=Fr fn tmps (.code a::.inScope a::k) ds kd) (bC:=Fr fn bQ (.code a::.inScope a::ζ) ds' kd') hh (by simp[stepG,stepG.exec,Fr,G]) (by simp[stepG,stepG.exec,Fr,G]) (mv _ _ (aH.2 ⟨hx,aH.2 ⟨hx,hk⟩⟩) ((υ.push _).push _))
   | cond c a b =>
    simp only[Jr,kg,fE] at hx;have hv:=hf.eval hR c hx.1.1.1 hx.1.1.2;by_cases hcb:∃ t,(Fr fn tmps (.code (.cond c a b)::k) ds kd).eval c=.bool t
    .obtain⟨t,ht'⟩:=hcb;rw[ht'] at hv;generalize hy:(Fr fn bQ (.code (.cond c a b)::ζ) ds' kd').eval c=y at hv
     cases hv
     exact gQ (fr':=Fr fn tmps (.code (if t then a else b)::k) ds kd) (bC:=Fr fn bQ (.code (if t then a else b)::ζ) ds' kd') hh (by simp only[Fr] at ht';simp[stepG,stepG.exec,Fr,G,ht']) (by simp only[Fr] at hy;simp[stepG,stepG.exec,Fr,G,hy]) (mv _ _ (aH.2 ⟨by cases t <;> simp[Jr,hx],hk⟩) (υ.push _))
    .refine absurd ?_ hlive;simp only[stepG,stepG.exec,Fr,G];split
     .rename_i t ht;exact absurd ⟨t,ht⟩ hcb
     .trivial
   | exit id =>
    cases he:exitTo id k with
    | some k' =>
     obtain⟨k₂,he₂,hk₂⟩:=υ.exit he;exact gQ (fr':=Fr fn tmps k' ds kd) (bC:=Fr fn bQ k₂ ds' kd') hh (by simp[stepG,stepG.exec,Fr,G,he]) (by simp[stepG,stepG.exec,Fr,G,he₂]) (mv _ _ (jo he hk) hk₂)
    | none=>exact absurd (by simp[stepG,stepG.exec,Fr,G,he,oF]) hlive
   | goto l =>
    cases he:gotoIn l k with
    | some k' =>
     obtain⟨k₂,he₂,hk₂⟩:=υ.goto he;exact gQ (fr':=Fr fn tmps k' ds kd) (bC:=Fr fn bQ k₂ ds' kd') hh (by simp[stepG,stepG.exec,Fr,G,he]) (by simp[stepG,stepG.exec,Fr,G,he₂]) (mv _ _ (ji he hk) hk₂)
    | none=>exact absurd (by simp[stepG,stepG.exec,Fr,G,he,oF]) hlive
   | region id ops draw =>
    cases draw with
    | false=>exact gQ (fr':=Fr fn tmps (.inRegion ops (List.range ops.size)::k) ds kd) (bC:=Fr fn bQ (.inRegion ops (List.range ops.size)::ζ) ds' kd') hh (by simp[stepG,stepG.exec,Fr,G]) (by simp[stepG,stepG.exec,Fr,G]) (mv _ _ (aH.2 ⟨hx,hk⟩) (υ.push _))
    | true =>
     have hA:stepG P main (G (Fr fn tmps (.code (.region id ops true)::k) ds kd) cs) w=.go (G (Fr fn tmps (.inRegion ops (Region.schedule (P.follows .mixedOrders) ops (w.tape w.drawn (.order fn id)))::k) ds kd) cs) {w with drawn:=w.drawn+1} #[]:=by
      simp[stepG,stepG.exec,Fr,G,choose,Sem.run,Question.forced,Question.cut]
     rw[hA] at ht;have h0:ω.tape ω.drawn=w.tape w.drawn:=by simpa using ht 0 (by simp[gw])
     have hB:stepG P dK (G (Fr fn bQ (.code (.region id ops true)::ζ) ds' kd') χ) ω=.go (G (Fr fn bQ (.inRegion ops (Region.schedule (P.follows .mixedOrders) ops (w.tape w.drawn (.order fn id)))::ζ) ds' kd') χ) {ω with drawn:=ω.drawn+1} #[]:=by
      simp[stepG,stepG.exec,Fr,G,choose,Sem.run,Question.forced,Question.cut,h0]
     rw[hA,hB];have hm':=mv (.inRegion ops (Region.schedule (P.follows .mixedOrders) ops (w.tape w.drawn (.order fn id)))::k) (.inRegion ops (Region.schedule (P.follows .mixedOrders) ops (w.tape w.drawn (.order fn id)))::ζ) (aH.2 ⟨hx,hk⟩) (υ.push _);refine⟨0,rfl,.go (hm'.mono vM),⟨hh.ext 0,rfl,aY _,?_,fun _ _ _=>rfl,fun _ _ _=>rfl,nP.nil _ _⟩⟩;show _=({ω with heap:=ω.heap,drawn:=ω.drawn+(w.drawn+1-w.drawn)}:World);rw[qbu];rfl
   | rangeFunc a b c d=>exact absurd hx (by simp[Jr,kg])
   | refuse m=>exact absurd (by simp[stepG,stepG.exec,Fr,G,oF]) hlive
  | inRegion ops l =>
   cases l with
   | nil=>exact gQ (fr':=Fr fn tmps k ds kd) (bC:=Fr fn bQ ζ ds' kd') hh (by simp[stepG,stepG.exec,Fr,G]) (by simp[stepG,stepG.exec,Fr,G]) (mv _ _ hk υ)
   | cons i l =>
    have AY:(ops.all fun o=>Vt T'.2.2 o)=true:=by
     simp only[Jr,YF,fE] at hx ⊢;exact fun i hi=>(hx i hi).2
    have hy:yielded ops tmps=yielded ops bQ:=hf.yielded ops AY;by_cases hw:((ops[i]?).map (Region.wanted · (yielded ops tmps))).getD false=true
    .cases ho:ops[i]? with
     | none=>rw[ho] at hw;cases hw
     | some o =>
      have hw2:Region.wanted o (yielded ops tmps)=true:=by rw[ho] at hw;simpa using hw
      obtain⟨hok,hpn,hz,hz',Zq⟩:=hn ops i l k o rfl ho hw2;have hw3:Region.wanted o (yielded ops bQ)=true:=by rw[<-hy];exact hw2
      have hA:stepG P main (G (Fr fn tmps (.inRegion ops (i::l)::k) ds kd) cs) w=stepG.apply P true (Fr fn tmps (.inRegion ops (i::l)::k) ds kd) cs none (execOp (Fr fn tmps (.inRegion ops (i::l)::k) ds kd).eval o) w:=by
       simp[stepG,stepG.exec,stepG.oper,Frame.oper?,Fr,G,hw2,ho]
      have hB:stepG P dK (G (Fr fn bQ (.inRegion ops (i::l)::ζ) ds' kd') χ) ω=stepG.apply P true (Fr fn bQ (.inRegion ops (i::l)::ζ) ds' kd') χ none (execOp (Fr fn bQ (.inRegion ops (i::l)::ζ) ds' kd').eval o) ω:=by
       simp[stepG,stepG.exec,stepG.oper,Frame.oper?,Fr,G,hw3,ho]
      rw[hA] at hlive ht;rw[hA,hB];exact SI hR hK hL hb hh hc rfl (fun R' hR' hRR hD=>NY hR' hL hD (hf.mono hRR) (by
       rw[YF] at AY;obtain⟨hlt,he⟩:=fT.1 ho;have:=AY i hlt;rw[he] at this;simp only[Vt,fE] at this;exact this.1) hT' hok hpn hz hz' Zq) hlive ht
    .have hw':((ops[i]?).map (Region.wanted · (yielded ops tmps))).getD false=false:=by simpa using hw
     have hw'':((ops[i]?).map (Region.wanted · (yielded ops bQ))).getD false=false:=by rw[<-hy];exact hw'
     exact gQ (fr':=(Fr fn tmps (.inRegion ops (i::l)::k) ds kd).finish au) (bC:=(Fr fn bQ (.inRegion ops (i::l)::ζ) ds' kd').finish au) hh (by simp[stepG,stepG.exec,Fr,G,hw']) (by simp[stepG,stepG.exec,Fr,G,hw'']) (hc.finish dG)
  | inRangeFunc l=>exact absurd hx (by simp[Jr])
  | endRangeFunc l=>exact absurd hx (by simp[Jr])
  | beginRound=>exact absurd hx (by simp[Jr])
  | call d b r s=>exact absurd hx (by simp[Jr])
  | extern r a=>exact absurd hx (by simp[Jr])
def resumed(c:Frame):Frame:=match c.mode with
 | .panicking ({recovered:=true,..}::older) =>
  match older.dropWhile (!·.goexit) with
  | []=>{c with mode:=.returning}
  | rest=>{c with mode:=.panicking rest}
 | _=>c
theorem KE{x y:Frame}(h:rF P R L K T x y):rF P R L K T (resumed x) (resumed y):=by
 obtain⟨fn,tmps,todo,defers,mode,kind,ro⟩:=x;obtain⟨fn',bQ,todo',defers',Ke,kind',ro'⟩:=y;have h0:=h;obtain⟨h1,h2,h3,h4,h5,h6,h7,h8,h8',h9,h10⟩:=h0;simp only at h1 h2 h3 h4 h5 h6 h7 h8 h8' h9 h10
 cases h6 with
 | run=>exact h
 | returning=>exact h
 | panicking hp=>cases hp with
  | nil=>exact h
  | @cons p q ps qs hv hr hg k =>
   obtain⟨pv,pr,pg⟩:=p;obtain⟨qv,qr,qg⟩:=q;simp only at hv hr hg;subst hr hg
   cases qr with
   | false=>exact h
   | true =>
    have hd:=k.drop;unfold resumed;dsimp only
    generalize List.dropWhile (fun x=>!x.goexit) ps=a at hd;generalize List.dropWhile (fun x=>!x.goexit) qs=b at hd
    cases hd with
    | nil=>exact⟨h1,h2,h3,h4,h5,.returning,h7,h8,h8',h9,h10⟩
    | cons hv hr hg k=>exact⟨h1,h2,h3,h4,h5,.panicking (.cons hv hr hg k),h7,h8,h8',h9,h10⟩
def back(k:CallKind)(c:Frame)(v:Value):Frame:=if k=.deferred then resumed c else c.finish v
theorem IB(x:Frame):(resumed x).kind=x.kind/\(resumed x).defers=x.defers:=by
 unfold resumed;split
 .split <;> exact⟨rfl,rfl⟩
 .exact⟨rfl,rfl⟩
theorem uh(x:Frame)(k:CallKind)(v:Value):(back k x v).kind=x.kind/\(back k x v).defers=x.defers:=by
 unfold back;split
 .exact IB x
 .exact⟨(nZ x v).1,(nZ x v).2.1⟩
theorem K4{x y:Frame}(h:rF P R L K T x y)(k:CallKind){v u:Value}(hv:VR R L v u):rF P R L K T (back k x v) (back k y u):=by
 unfold back;split
 .exact KE h
 .exact h.finish hv
theorem jE{main:Bool}{fr c:Frame}{cs:List Frame}{v:Value}{w:World}(hk:fr.kind=.normal\/fr.kind=.deferred):doReturn P main fr (c::cs) none v w=.go (G (back fr.kind c v) cs) w #[]:=by
 unfold doReturn back;rcases hk with hk|hk <;> rw[hk] <;> rfl
theorem Ki{α:Type}{f g:α->Sem Value}(h:∀ a,SR P R L (VR R L) (f a) (g a)):∀ l:List α,SR P R L (LV R L) (l.mapM f) (l.mapM g)
 | []=>by rw[qbs,qbs];exact ak .nil
 | a::l=>by
  rw[qbj,qbj];exact aM (h a) fun v w hv=>aM (Ki h l) fun x y hx=>ak (.cons hv hx)
theorem Nr(fn:Func){x y:Array Value}(h:AV R L x y):SR P R L (VR R L) (results fn x) (results fn y):=by
 unfold results;rw[qaP,qaP];refine aM (C:=AV R L) (Hw (Ki (fun r=>?_) _) fun a b hab=>hab.arr) fun a b hab=>?_
 .cases r with
  | tmp t=>exact ak (h.getD t dG)
  | cell a t=>exact aM (GZ (h.getD a dG)) fun a b hab=>BJ hab
 .have hs:=hab.1;by_cases h1:a.size=1
  .have h2:b.size=1:=by omega
   rw[dif_pos h1,dif_pos h2];exact ak (hab.2 0 _ _ (mJ (by omega)) (mJ (by omega)))
  .have h2:¬ b.size=1:=by omega
   rw[dif_neg h1,dif_neg h2];exact ak (VR.q9 hab)
theorem vV{fr:Frame}{av:List (Nat×Value)}(hi:Items P L K av fr.todo):fr.catches P=false:=by
 unfold Frame.catches;split
 .rename_i h1 h2
  rw[h2] at hi;exact absurd (aH.1 hi).1 (by simp[Jr])
 .rfl
theorem Jh{fr:Frame}(h:∀ d b r s k,fr.todo≠.call d b r s::k):fr.catches P=false:=by
 unfold Frame.catches;split
 .rename_i h1 h2
  exact absurd h2 (h _ _ _ _ _)
 .rfl
def adP(d:Deferred)(fr:Frame):Bool:=(d.target matches .nil)&&(fr.mode matches .panicking _)
theorem Jv(hR:GB P R)(hK:vB P L K)(hL:∀ f,L f=true->fK P f){fr aB:Frame}{cs χ:List Frame}{w ω:World}(hb:FZ R w.heap.size ω.heap.size)(hh:HR R L w.heap ω.heap)(hc:SL P R L K Z T B dI fr cs aB χ)(hZ:Z=false){d e:Deferred}(hd:DR R L d e)(hn:∀ b ts t c,d.target=.builtin b ts t c->(b=.unsafeString/\d.args.size=2)\/okB P ts b=true)(hlive:¬ oF (callDeferred P fr cs none d w))(ht:Tape w ω (gw (callDeferred P fr cs none d w)).drawn):Stp P R L K Z T B dI w ω (callDeferred P fr cs none d w) (callDeferred P aB χ none e ω):=by
 obtain⟨T',hf,hT',hput⟩:=hc.top;have hzz:Z=true->False:=fun z=>by rw[hZ] at z;cases z
 have hnil:¬ adP d fr=true:=fun hx=>by
  refine hlive ?_;have:∃ o,callDeferred P fr cs none d w=.ended o w #[]:=⟨_,by unfold callDeferred;exact if_pos hx⟩
  obtain⟨o,ho⟩:=this;rw[ho];trivial
 have hnil':¬ adP e aB=true:=by
  have h1:=hd.target;have h2:=hf.mode;unfold adP at hnil ⊢;generalize d.target=a at h1 hnil;generalize e.target=b at h1;generalize fr.mode=c at h2 hnil;generalize aB.mode=c' at h2
  cases h1 <;> cases h2 <;> exact hnil
 cases hr:(invoke d.target d.args).runT P w #[] with
 | mk r es' =>
 by_cases hft:Gt r
 .refine absurd ?_ hlive;unfold callDeferred;refine(congrArg oF (if_neg hnil)).mpr ?_;simp only[hr]
  cases r with
  | ok a w'=>exact hft.elim
  | halt h w' =>
   cases h <;> first|exact hft.elim|trivial
 .have hs:∀ R',GB P R'->(∀ a b,R a b->R' a b)->Dso R' L->SR P R' L (NR R' L Z) (invoke d.target d.args) (invoke e.target e.args):=fun R' hR' hRR _=>zM hR' hL (hd.mono hRR) hn fun _ _ _ _=>hZ
  have hgw:gw (callDeferred P fr cs none d w)=rw r:=by
   obtain⟨R',ι,hrr⟩:=Hz (C:=fun R'=>NR R' L Z) hR hb hh hs hr hft;unfold callDeferred;refine(congrArg gw (if_neg hnil)).trans ?_;simp only[hr]
   cases hrr with
   | panic hv=>exact lT _ _
   | ok hab=>cases hab with
    | recover =>
     dsimp only
     rw[lT];split <;> rfl
    | _=>exact lT _ _
  rw[hgw] at ht;obtain⟨k,ι,η,hk,jc,Ky⟩:=Bc (C:=fun R'=>NR R' L Z) hR hb hh hs hr ht hft;have hwd:=Ky.toWd;have hres:=Ky.res;have hc':=hc.mono (R':=ext R w.heap.size ω.heap.size k) vM;have same:∀ (w' ω':World),rw r=w'->rw ι=ω'->callDeferred P fr cs none d w=.go (G fr cs) w' (seen P fr.fn es')->callDeferred P aB χ none e ω=.go (G aB χ) ω' (seen P aB.fn η)->Stp P R L K Z T B dI w ω (callDeferred P fr cs none d w) (callDeferred P aB χ none e ω):=by
   intro w' ω' e1 e2 hA hB;rw[hA,hB];subst e1 e2;exact⟨k,hk,.go hc',hwd.seen hf.fn⟩
  cases hres with
  | @panic v u w' ω' hv =>
   have hA:callDeferred P fr cs none d w=.go (G (fr.raise [{v,recovered:=false}]) cs) w' (seen P fr.fn es'):=by
    unfold callDeferred;refine(if_neg hnil).trans ?_;simp only[hr];simp[GStep.after,G]
   have hB:callDeferred P aB χ none e ω=.go (G (aB.raise [{v:=u,recovered:=false}]) χ) ω' (seen P aB.fn η):=by
    unfold callDeferred;refine(if_neg hnil').trans ?_;simp only[jc];simp[GStep.after,G]
   rw[hA,hB];exact⟨k,hk,.go (hc'.raise (.cons hv rfl rfl .nil)),hwd.seen hf.fn⟩
  | @ok a b w' ω' hab =>
   cases hab with
   | @value v u hv =>
    refine same w' ω' rfl rfl ?_ ?_
    .unfold callDeferred;refine(if_neg hnil).trans ?_;simp only[hr];simp[GStep.after,G]
    .unfold callDeferred;refine(if_neg hnil').trans ?_;simp only[jc];simp[GStep.after,G]
   | skip =>
    refine same w' ω' rfl rfl ?_ ?_
    .unfold callDeferred;refine(if_neg hnil).trans ?_;simp only[hr];simp[GStep.after,G]
    .unfold callDeferred;refine(if_neg hnil').trans ?_;simp only[jc];simp[GStep.after,G]
   | @enter f hLf x y hxy =>
    have hA:callDeferred P fr cs none d w=.go (G (Frame.enter P f x .deferred) (fr::cs)) w' (seen P fr.fn es'):=by
     unfold callDeferred;refine(if_neg hnil).trans ?_;simp only[hr];simp[GStep.after,G]
    have hB:callDeferred P aB χ none e ω=.go (G (Frame.enter P f y .deferred) (aB::χ)) ω' (seen P aB.fn η):=by
     unfold callDeferred;refine(if_neg hnil').trans ?_;simp only[jc];simp[GStep.after,G]
    rw[hA,hB];exact⟨k,hk,.go (.up (Gj hK hLf (hL f hLf) hxy (.inr rfl)) (fun z=>(hzz z).elim) hc'),hwd.seen hf.fn⟩
   | @defer x y hz hxy =>
    refine same w' ω' rfl rfl ?_ ?_
    .unfold callDeferred;refine(if_neg hnil).trans ?_;simp only[hr];simp[GStep.after,G]
    .unfold callDeferred;refine(if_neg hnil').trans ?_;simp only[jc];simp[GStep.after,G]
   | @comm hzc x y hxy bl sh =>
    refine same w' ω' rfl rfl ?_ ?_
    .unfold callDeferred;refine(if_neg hnil).trans ?_;simp only[hr];simp[GStep.after,G]
    .unfold callDeferred;refine(if_neg hnil').trans ?_;simp only[jc];simp[GStep.after,G]
   | recover Zq =>
    have hm:=hf.mode;generalize hm1:fr.mode=m at hm;generalize hm2:aB.mode=m' at hm
    cases hm with
    | run =>
     refine same w' ω' rfl rfl ?_ ?_
     .unfold callDeferred;refine(if_neg hnil).trans ?_;simp only[hr,hm1];simp[GStep.after,G]
     .unfold callDeferred;refine(if_neg hnil').trans ?_;simp only[jc,hm2];simp[GStep.after,G]
    | panicking hp =>
     refine same w' ω' rfl rfl ?_ ?_
     .unfold callDeferred;refine(if_neg hnil).trans ?_;simp only[hr,hm1];simp[GStep.after,G]
     .unfold callDeferred;refine(if_neg hnil').trans ?_;simp only[jc,hm2];simp[GStep.after,G]
    | returning =>
     rcases Am Zq hc' with⟨n1,n2⟩|⟨v,u,a',b',n1,n2,n3,n4⟩
     .refine same w' ω' rfl rfl ?_ ?_
      .unfold callDeferred;refine(if_neg hnil).trans ?_;simp only[hr,hm1,n1];simp[GStep.after,G]
      .unfold callDeferred;refine(if_neg hnil').trans ?_;simp only[jc,hm2,n2];simp[GStep.after,G]
     .have hA:callDeferred P fr cs none d w=.go (G fr a') w' (seen P fr.fn es'):=by
       unfold callDeferred;refine(if_neg hnil).trans ?_;simp only[hr,hm1,n1];simp[GStep.after,G]
      have hB:callDeferred P aB χ none e ω=.go (G aB b') ω' (seen P aB.fn η):=by
       unfold callDeferred;refine(if_neg hnil').trans ?_;simp only[jc,hm2,n2];simp[GStep.after,G]
      rw[hA,hB];exact⟨k,hk,.go n4,hwd.seen hf.fn⟩
theorem nC{main:Bool}{fr:Frame}{cs:List Frame}{w:World}(h:fr.mode≠.run):stepG P main (G fr cs) w=unwind P main fr cs none w:=by
 unfold stepG G;dsimp only
 try rfl
 all_goals (split <;> first|rfl|(rename_i hm;exact absurd hm h)|skip)
 all_goals simp_all
theorem Nn(hR:GB P R)(hK:vB P L K)(hL:∀ f,L f=true->fK P f){main dK:Bool}{fr aB:Frame}{cs χ:List Frame}{w ω:World}(hb:FZ R w.heap.size ω.heap.size)(hh:HR R L w.heap ω.heap)(hc:SL P R L K Z T B dI fr cs aB χ)(hm:fr.mode≠.run)(hn:dS P L Z fr)(hne:cs=B->fr.defers≠[])(hlive:¬ oF (stepG P main (G fr cs) w))(ht:Tape w ω (gw (stepG P main (G fr cs) w)).drawn):Stp P R L K Z T B dI w ω (stepG P main (G fr cs) w) (stepG P dK (G aB χ) ω):=by
 obtain⟨T',hf,hT',hput⟩:=hc.top;have hm₁:aB.mode≠.run:=by
  have h:=hf.mode;intro e;rw[e] at h;generalize fr.mode=m at h hm
  cases h
  exact hm rfl
 rw[nC hm] at hlive ht;rw[nC hm,nC hm₁];obtain⟨dd,hdd,hds⟩:=hf.defers
 cases hd1:fr.defers with
 | cons d ds =>
  rw[hd1] at hds;have hZ:Z=false:=by
   cases hq:Z with
   | false=>rfl
   | true=>have:=hc.ZR hq;rw[hd1] at this;cases this
  have hT0:=hT' hZ;subst hT0;have hd2:aB.defers=dd:=by rw[hdd];exact Qq _
  cases hds with
  | @cons _ e _ es hde hds =>
   have ht0:=hde.target;obtain⟨dt,da⟩:=d;obtain⟨et,ea⟩:=e;simp only at ht0;have hA:unwind P main fr cs none w=callDeferred P {fr with defers:=ds} cs none ⟨dt,da⟩ w:=by
    unfold unwind;rw[hd1]
    cases ht0 <;> rfl
   have hB:unwind P dK aB χ none ω=callDeferred P {aB with defers:=es} χ none ⟨et,ea⟩ ω:=by
    unfold unwind;rw[hd2]
    cases ht0 <;> rfl
   rw[hA] at hlive ht;rw[hA,hB];have hsl2:SL P R L K Z T B dI {fr with defers:=ds} cs {aB with defers:=es} χ:=by
    cases hc with
    | bot h hk _ hT =>
     have hT:=hT hZ;subst hT;exact .bot ⟨h.fn,h.tmps,h.todo,h.items,⟨es,(Qq _).symm,hds⟩,h.mode,h.kind,h.norm,h.xO,h.ro,h.ro'⟩ hk (fun z=>by rw[hZ] at z;cases z) fun _=>rfl
    | up h _ k=>exact .up ⟨h.fn,h.tmps,h.todo,h.items,⟨es,(Qq _).symm,hds⟩,h.mode,h.kind,h.norm,h.xO,h.ro,h.ro'⟩ (fun z=>by rw[hZ] at z;cases z) k
   refine Jv hR hK hL hb hh hsl2 hZ hde (fun b ts t c hb=>?_) hlive ht;unfold dS at hn
   cases hx:fr.mode with
   | run=>exact absurd hx hm
   | returning=>rw[hx] at hn;exact hn _ ds b ts t c hd1 hb
   | panicking ch=>rw[hx] at hn;exact hn _ ds b ts t c hd1 hb
 | nil =>
  rw[hd1] at hds
  cases hds
  cases hc with
  | bot _ _ _ _=>exact absurd hd1 (hne rfl)
  | @up _ _ c c' cs χ hf hz hcs =>
  have hta:AV R L fr.tmps aB.tmps:=by
   obtain⟨tm,h1,h2⟩:=hf.tmps;have:aB.tmps=tm:=h2;rw[this];exact h1
  have hd2:aB.defers=[]:=by
   obtain⟨d2,h1,h2⟩:=hf.defers;rw[hd1] at h2
   cases h2
   rw[h1];rfl
  have hmm:=hf.mode;generalize hx:fr.mode=m at hmm;generalize hx₁:aB.mode=m' at hmm
  cases hmm with
  | run=>exact absurd hx hm
  | @panicking a b hp =>
   have hA:unwind P main fr (c::cs) none w=.go (G (c.raise a) cs) w #[]:=by
    unfold unwind;rw[hd1,hx];dsimp only
    rw[vV hf.items];rfl
   have hB:unwind P dK aB (c'::χ) none ω=.go (G (c'.raise b) χ) ω #[]:=by
    unfold unwind;rw[hd2,hx₁];dsimp only
    rw[Jh (hf.todo.calm (Qr hf.items))];rfl
   rw[hA,hB];exact Dv hh (hcs.raise hp)
  | returning =>
   have hk:=hf.norm;have υ:aB.kind=.normal\/aB.kind=.deferred:=hf.xO;have hkk:aB.kind=fr.kind:=hf.kind
   cases hfn:P.funcs[fr.fn]? with
   | none =>
    have hA:unwind P main fr (c::cs) none w=.go (G (back fr.kind c (fr.tmps.getD 0 au)) cs) w #[]:=by
     unfold unwind;rw[hd1,hx];dsimp only
     rw[hfn];exact jE hk
    have hB:unwind P dK aB (c'::χ) none ω=.go (G (back fr.kind c' (aB.tmps.getD 0 au)) χ) ω #[]:=by
     unfold unwind;rw[hd2,hx₁];dsimp only
     rw[hf.fn,hfn,<-hkk];exact jE υ
    rw[hA,hB];exact Dv hh (hcs.with (fun _ hcc=>K4 hcc _ (hta.getD 0 dG)) (uh _ _ _).1 fun z=>(uh _ _ _).2.trans (hcs.ZR z))
   | some fn =>
    cases hr:(results fn fr.tmps).runT P w #[] with
    | mk r es' =>
    by_cases hft:Gt r
    .refine absurd ?_ hlive;unfold unwind;rw[hd1,hx];dsimp only
     rw[hfn];dsimp only
     rw[hr]
     cases r with
     | ok a w'=>exact hft.elim
     | halt h w'=>cases h <;> first|exact hft.elim|trivial
    .have hs:∀ R',GB P R'->(∀ a b,R a b->R' a b)->Dso R' L->SR P R' L (VR R' L) (results fn fr.tmps) (results fn aB.tmps):=fun R' hR' hRR _=>Nr fn (hta.mono hRR)
     have hgw:gw (unwind P main fr (c::cs) none w)=rw r:=by
      obtain⟨R',ι,hrr⟩:=Hz (C:=fun R'=>VR R' L) hR hb hh hs hr hft;unfold unwind;rw[hd1,hx];dsimp only
      rw[hfn];dsimp only
      rw[hr];dsimp only
      cases hrr with
      | panic hv=>exact lT _ _
      | ok hab =>
       dsimp only
       rw[lT,jE hk];rfl
     rw[hgw] at ht;obtain⟨k,ι,η,hk',jc,Ky⟩:=Bc (C:=fun R'=>VR R' L) hR hb hh hs hr ht hft;have hwd:=Ky.toWd;have hres:=Ky.res
     cases hres with
     | @panic v u w' ω' hv =>
      refine absurd ?_ hlive;unfold unwind;rw[hd1,hx];dsimp only
      rw[hfn];dsimp only
      rw[hr];trivial
     | @ok v u w' ω' hv =>
      have hA:unwind P main fr (c::cs) none w=.go (G (back fr.kind c v) cs) w' (seen P fr.fn es'):=by
       unfold unwind;rw[hd1,hx];dsimp only
       rw[hfn];dsimp only
       rw[hr];dsimp only
       rw[jE hk];simp[GStep.after]
      have hB:unwind P dK aB (c'::χ) none ω=.go (G (back fr.kind c' u) χ) ω' (seen P aB.fn η):=by
       unfold unwind;rw[hd2,hx₁];dsimp only
       rw[hf.fn,hfn];dsimp only
       rw[jc];dsimp only
       rw[jE υ,hkk];simp[GStep.after]
      rw[hA,hB];exact⟨k,hk',.go ((hcs.mono vM).with (fun _ hcc=>K4 hcc _ hv) (uh _ _ _).1 fun z=>(uh _ _ _).2.trans (hcs.ZR z)),hwd.seen hf.fn⟩
theorem xV(hR:GB P R)(hK:vB P L K)(hL:∀ f,L f=true->fK P f){main dK:Bool}{fr aB:Frame}{cs χ:List Frame}{w ω:World}(hb:FZ R w.heap.size ω.heap.size)(hh:HR R L w.heap ω.heap)(hc:SL P R L K Z T B dI fr cs aB χ)(hn:dS P L Z fr)(hne:cs=B->fr.mode=.run\/fr.defers≠[])(hlive:¬ oF (stepG P main (G fr cs) w))(ht:Tape w ω (gw (stepG P main (G fr cs) w)).drawn):Stp P R L K Z T B dI w ω (stepG P main (G fr cs) w) (stepG P dK (G aB χ) ω):=by
 by_cases hm:fr.mode=.run
 .exact aan hR hK hL hb hh hc hm hn hlive ht
 .exact Nn hR hK hL hb hh hc hm hn (fun h=>(hne h).resolve_left hm) hlive ht
end
end Sr
end
section
open Go.Conc
namespace Cc
def T{α:Type}:α->Prop:=fun _=>True
section
variable {α β:Type}{P:Program}{C:α->Prop}{D:β->Prop}
theorem aC{s:Sem α}{f:α->Sem β}(h:ok P T s)(hf:∀ a,ok P D (f a)):ok P D (s >>= f):=d9 (fun a _=>hf a) h
theorem NG{s:Sem α}{f:α->β}(h:ok P T s):ok P (T:β->Prop) (f <$> s):=by
 show ok P T (s.bind fun a=>.pure (f a));exact d9 (P:=P) (C:=T) (D:=T) (f:=fun a=>Sem.pure (f a)) (fun a _=>(trivial:T (f a))) h
theorem ay(a:α):ok P T (pure a:Sem α):=trivial
theorem aA(m:String):ok P C (stuck m:Sem α):=trivial
theorem bH(u:Unsupported):ok P C (unsupported u:Sem α):=trivial
theorem sV(v:Value):ok P C (goPanic v:Sem α):=trivial
end
section
variable {P:Program}
theorem bO:ok P T program:=trivial
theorem Bf(a:Addr):ok P T (load a):=⟨rfl,fun _=>trivial⟩
theorem Xx(a:Addr)(v:Value):ok P T (store a v):=⟨rfl,trivial⟩
theorem kP(o:Obj):ok P T (newObj o):=fun _=>trivial
theorem dP(r:Nat):ok P T (shape r):=fun _=>trivial
theorem F4(a:Addr)(n:Nat):ok P T (freeze a n):=trivial
theorem zx(a:Addr):ok P T (frozen a):=fun _=>trivial
theorem oW(r:Nat):ok P T (getObj r):=fun _=>trivial
theorem dU(q:Question):ok P T (choose q):=fun _=>trivial
theorem uR:ok P T (mark .noRoom):=⟨.inl rfl,trivial⟩
theorem vP(n:Nat):ok P T (askRoom n):=by
 unfold askRoom;split
 .exact uR
 .exact ay _
theorem dN(t:TypeId):ok P T (typeInfo t):=by
 unfold typeInfo;refine aC bO fun p=>?_
 split
 .exact ay _
 .exact aA _
theorem aK(t:TypeId):ok P T (underlying t):=by
 unfold underlying;refine aC bO fun p=>?_
 split
 .exact ay _
 .exact aA _
theorem iJ(t:TypeId):ok P T (zeroValue t):=by
 unfold zeroValue;refine aC (dN t) fun p=>?_
 split
 .exact ay _
 .exact bH _
theorem bM(t:TypeId):ok P T (sizeOf t):=aC (dN t) fun _=>ay _
theorem JW(t:TypeId):ok P T (isAgg t):=by
 unfold isAgg;refine aC (aK t) fun p=>?_
 split <;> exact ay _
theorem oU(a:Addr):∀ (n i:Nat)(acc:Array Value),ok P T (loadCellsFrom a i n acc)
 | 0,i,acc=>ay _
 | n+1,i,acc=>aC (Bf _) fun v=>oU a n (i+1) _
theorem mG(a:Addr)(n:Nat):ok P T (loadCells a n):=oU a n 0 _
theorem iV(a:Addr):∀ (vs:List Value)(i:Nat),ok P T (storeCells a vs i)
 | [],i=>ay _
 | v::vs,i=>aC (Xx _ _) fun _=>iV a vs (i+1)
theorem BU(t:TypeId)(a:Addr):ok P T (loadVar t a):=by
 unfold loadVar;refine aC (JW t) fun b=>?_
 split
 .exact aC (bM t) fun n=>aC (mG a n) fun _=>ay _
 .exact Bf a
theorem Aj(t:TypeId)(a:Addr)(v:Value):ok P T (storeVar t a v):=by
 unfold storeVar;refine aC (bM t) fun n=>?_
 split
 .exact aC (aA _) fun _=>iV a _ 0
 .exact iV a _ 0
theorem kI(t:TypeId)(c:Array Value):ok P T (newRow t c):=aC (kP _) fun _=>ay _
theorem uq(t:TypeId)(v:Value):ok P T (newVar t v):=kI t _
theorem wI(t:TypeId)(cs:Array Value)(off:Nat):ok P T (part t cs off):=by
 unfold part;refine aC (JW t) fun b=>?_
 split
 .exact aC (bM t) fun n=>ay _
 .split
  .exact ay _
  .exact aA _
theorem qE(v:Value):ok P T (asIntOf v):=by
 unfold asIntOf;split <;> first|exact ay _|exact bH _|exact aA _
theorem sF(v:Value):ok P T (asInt v):=aC (qE v) fun _=>ay _
theorem zJ(v:Value):ok P T (asBool v):=by
 unfold asBool;split <;> first|exact ay _|exact aA _
theorem WY(v:Value):ok P T (asAgg v):=by
 unfold asAgg;split <;> first|exact ay _|exact aA _
theorem um(t:TypeId):ok P T (elemOf t):=by
 unfold elemOf;refine aC (aK t) fun p=>?_
 split
 .exact ay _
 .exact aA _
theorem bF{α:Type}{C:α->Prop}(e:RuntimeError):ok P C (runtimePanic e:Sem α):=by
 unfold runtimePanic;refine aC bO fun p=>?_
 dsimp only
 split <;> first|exact sV _|exact aA _|exact bH _|skip
 .exact aC (um _) fun _=>aC (uq _ _) fun _=>sV _
 .exact aC (um _) fun _=>aC (uq _ _) fun _=>sV _
theorem yZ{α:Type}{C:α->Prop}(k:IntKind)(x y:Int)(c:BoundsCode):ok P C (boundsPanic k x y c:Sem α):=by
 unfold boundsPanic;dsimp only
 split
 .exact aC (NG (dU _)) fun _=>bF _
 .exact aC (ay _) fun _=>bF _
theorem lD(v:Value):ok P T (Instr.sureAddr v):=by
 unfold Instr.sureAddr
 repeat' (first| exact ay _|exact aA _|(dsimp only;done)| split| dsimp only)
theorem Uk(t:TypeId)(v:Value):ok P T (Instr.loadAt t v):=aC (lD v) fun a=>BU t a
theorem PN(t:TypeId)(v x:Value):ok P T (Instr.storeAt t v x):=aC (lD v) fun a=>Aj t a x
theorem Y1(e:TypeId)(h:Bool)(o:Value):ok P T (Instr.alloc e h o):=by
 unfold Instr.alloc
 repeat' (first| exact ay _| exact iJ _| exact uq _ _|exact Aj _ _ _|(refine aC ?_ (fun _=>?_))|(dsimp only;done)| split| dsimp only)
theorem ad4(e:TypeId)(v:Value):ok P T (Instr.box e v):=aC (uq e v) fun _=>ay _
theorem E5(t:TypeId)(n:Nat)(ps:Array (Nat×Value)):ok P T (Instr.buildSlice t n ps):=by
 unfold Instr.buildSlice
 repeat' (first| exact ay _|exact aA _|exact bH _| exact aK _|exact bM _|exact iJ _| exact kI _ _|(refine aC ?_ (fun _=>?_))|(dsimp only;done)| split| dsimp only)
theorem Oo(t:TypeId)(x i:Value):ok P T (Instr.indexAt t x i):=by
 unfold Instr.indexAt
 repeat' (first| exact ay _|exact aA _|exact bH _|exact yZ _ _ _ _| exact aK _|exact bM _|exact qE _| exact lD _|(refine aC ?_ (fun _=>?_))|(dsimp only;done)| split| dsimp only)
theorem Fz(x:Value)(y:Nat)(c:BoundsCode):ok P T (Instr.sliceBound x y c):=by
 unfold Instr.sliceBound
 repeat' (first| exact ay _|exact yZ _ _ _ _| exact qE _|(refine aC ?_ (fun _=>?_))|(dsimp only;done)| split| dsimp only)
theorem rV(b:Bool)(n m:Nat)(lo hi mx:Option Value):ok P T (Instr.sliceBounds b n m lo hi mx):=by
 unfold Instr.sliceBounds
 repeat' (first| exact ay _|exact aA _| exact Fz _ _ _|(refine aC ?_ (fun _=>?_))|(dsimp only;done)| split| dsimp only)
theorem RX(v:Value):ok P T (asAddr v):=by
 unfold asAddr
 repeat' (first| exact ay _|exact aA _|exact bF _|(dsimp only;done)| split| dsimp only)
theorem ok_slice(t:TypeId)(x:Value)(lo hi mx:Option Value):ok P T (Instr.slice t x lo hi mx):=by
 unfold Instr.slice
 repeat' (first| exact ay _|exact aA _| exact aK _|exact bM _| exact rV _ _ _ _ _ _|exact RX _|(refine aC ?_ (fun _=>?_))|(dsimp only;done)| split| dsimp only)
theorem OL(t:TypeId)(x:Value)(lo hi mx:Option Value):ok P T (Instr.sliceAt t x lo hi mx):=by
 unfold Instr.sliceAt
 repeat' (first| exact ay _| exact aK _|exact bM _| exact rV _ _ _ _ _ _|exact lD _|exact ok_slice _ _ _ _ _|(refine aC ?_ (fun _=>?_))|(dsimp only;done)| split| dsimp only)
theorem Pp(t:TypeId)(x:Value):ok P T (Instr.arrayAt t x):=by
 unfold Instr.arrayAt
 repeat' (first| exact ay _|exact aA _|exact bF _| exact aK _|(refine aC ?_ (fun _=>?_))|(dsimp only;done)| split| dsimp only)
theorem XO(t:TypeId)(x:Value)(f:Nat):ok P T (Instr.field t x f):=by
 unfold Instr.field
 repeat' (first| exact aA _| exact aK _|exact WY _|exact wI _ _ _|(refine aC ?_ (fun _=>?_))|(dsimp only;done)| split| dsimp only)
theorem YN(t:TypeId)(x i:Value):ok P T (Instr.index t x i):=by
 unfold Instr.index
 repeat' (first| exact ay _|exact aA _|exact yZ _ _ _ _| exact aK _|exact bM _|exact qE _|exact wI _ _ _|(refine aC ?_ (fun _=>?_))|(dsimp only;done)| split| dsimp only)
theorem Jq(t:TypeId)(n c:Value):ok P T (Instr.makeSlice t n c):=by
 unfold Instr.makeSlice
 repeat' (first| exact ay _|exact aA _|exact bF _| exact aK _|exact bM _|exact iJ _|exact dN _|exact sF _| exact kI _ _|exact dU _|exact vP _|(refine aC ?_ (fun _=>?_))|(dsimp only;done)| split| dsimp only)
theorem Ox(x:Value)(i:Nat):ok P T (Instr.extract x i):=by
 unfold Instr.extract
 repeat' (first| exact ay _|exact aA _|(dsimp only;done)| split| dsimp only)
theorem La(o:BinOp)(k:IntKind)(x y:Int):ok P T (Op.intArith o k x y):=by
 unfold Op.intArith
 repeat' (first| exact ay _|exact aA _|(dsimp only;done)| split| dsimp only)
theorem Sj(o:BinOp)(x y:Int):ok P T (Op.intCmp o x y):=by
 unfold Op.intCmp
 repeat' (first| exact ay _|exact aA _|(dsimp only;done)| split| dsimp only)
theorem P6(o:BinOp)(k:IntKind)(x y:Int):ok P T (Op.intBits o k x y):=by
 unfold Op.intBits
 repeat' (first| exact ay _|exact aA _|(dsimp only;done)| split| dsimp only)
theorem Si(o:BinOp)(k:IntKind)(x y:Int):ok P T (Op.intDiv o k x y):=by
 unfold Op.intDiv
 repeat' (first| exact ay _|exact aA _|exact bF _|(dsimp only;done)| split| dsimp only)
theorem Zf(o:BinOp)(k:IntKind)(x:Int)(k2:IntKind)(y:Int):ok P T (Op.shift o k x k2 y):=by
 unfold Op.shift
 repeat' (first| exact ay _|exact aA _|exact bF _|(dsimp only;done)| split| dsimp only)
theorem Ac(o:BinOp)(x y:ByteArray):ok P T (Op.stringOp o x y):=by
 unfold Op.stringOp
 repeat' (first| exact ay _|exact aA _|exact bH _|(dsimp only;done)| split| dsimp only)
theorem Y0(o:UnOp)(x:Value):ok P T (Op.unary o x):=by
 unfold Op.unary
 repeat' (first| exact ay _|exact aA _|exact bH _|(dsimp only;done)| split| dsimp only)
theorem ac6(ts:Array TypeId)(t:TypeId)(xs:Array Value):ok P T (Builtin.len_ ts t xs):=by
 unfold Builtin.len_
 repeat' (first| exact ay _|exact aA _| exact aK _| exact oW _|(refine aC ?_ (fun _=>?_))|(dsimp only;done)| split| dsimp only)
theorem LZ(x:Value):ok P T (Builtin.lenOf x):=by
 unfold Builtin.lenOf
 repeat' (first| exact ay _|exact aA _|(dsimp only;done)| split| dsimp only)
theorem oI(n m:Nat)(x:Value):ok P T (Builtin.firstCells n m x):=by
 unfold Builtin.firstCells
 repeat' (first| exact ay _|exact aA _| exact mG _ _|(dsimp only;done)| split| dsimp only)
theorem Fe(a:Addr)(n:Nat):ok P T (Builtin.holdsCells a n):=by
 unfold Builtin.holdsCells
 repeat' (first| exact ay _| exact dP _|(refine aC ?_ (fun _=>?_))|(dsimp only;done)| split| dsimp only)
theorem KF(a b c:Nat)(o:Option Addr)(x:Value):ok P T (Builtin.mayShare a b c o x):=by
 unfold Builtin.mayShare
 repeat' (first| exact ay _| exact zx _|exact Fe _ _|(refine aC ?_ (fun _=>?_))|(dsimp only;done)| split| dsimp only)
theorem bq{α:Type}{C:α->Prop}{c:Prop}[Decidable c]{a b:Sem α}(ha:ok P C a)(hb:ok P C b):ok P C (if c then a else b):=by
 by_cases h:c
 .rw[if_pos h];exact ha
 .rw[if_neg h];exact hb
theorem KN(k:IntKind)(n:Int):ok P T (Conv.intToInt k n):=by
 unfold Conv.intToInt
 repeat' (first| exact ay _|(dsimp only;done)| split| dsimp only)
end
end Cc
end
section
open Go.Conc
namespace Cc
variable {P:Program}
theorem Uq(ts:Array TypeId)(t:TypeId)(xs:Array Value):ok P T (Builtin.append_ ts t xs):=by
 unfold Builtin.append_;generalize ts[0]? = o0;generalize xs[0]? = o1;generalize xs[1]? = o2;generalize ts[1]? = o3
 cases o0 with
 | none=>exact aA _
 | some sType =>
  cases o1 with
  | none=>exact aA _
  | some s =>
   cases o2 with
   | none=>exact aA _
   | some x =>
    refine aC (aK _) fun d=>?_
    cases d <;> first|exact aA _|skip
    rename_i elem
    cases s <;> first|exact aA _|skip
    rename_i base sLen sCap
    refine aC (bM _) fun size=>?_
    extract_lets -underBinder jp
    have hj:∀ z,ok P T (jp z):=by
     intro z;simp -zeta only[jp]
     extract_lets -underBinder jn
     have hn:∀ n,ok P T (jn n):=by
      intro n;simp -zeta only[jn]
      extract_lets -underBinder app need
      have happ:ok P T app:=by
       simp only[app];refine bq (oI _ _ _) (bq (ay _) (aC (iJ _) fun _=>ay _))
      clear_value app need
      refine bq (aC happ fun new=>?_) (aC (dN _) fun ti=>?_)
      .extract_lets -underBinder j1
       split
       .exact aC (iV _ _ _) fun _=>ay _
       .exact ay _
      .extract_lets -underBinder j1
       have h1:∀ u,ok P T (j1 u):=by
        intro u;simp -zeta only[j1];refine aC (dN _) fun ti2=>?_
        extract_lets -underBinder j2
        have h2:∀ u,ok P T (j2 u):=by
         intro u;simp only[j2];exact aC (dU _) fun _=>aC (dN _) fun _=>aC (vP _) fun _=>aC (oI _ _ _) fun _=>aC happ fun _=>aC (iJ _) fun _=>aC (kI _ _) fun _=>ay _
        clear_value j2
        refine bq (aC (bq (bF _) (aC (KF _ _ _ _ _) fun b=>?_)) fun _=>h2 _) (h2 _)
        extract_lets -underBinder j3
        exact bq (aC uR fun _=>bH _) (bH _)
       clear_value j1
       exact bq (aC (bF _) fun _=>h1 _) (h1 _)
     clear_value jn
     refine bq (aC (sF _) fun l=>?_) (aC (LZ _) fun n=>hn n)
     extract_lets -underBinder l2 j3
     have h3:∀ u,ok P T (j3 u):=by
      intro u;simp -zeta only[j3];refine aC (dN _) fun ti=>?_
      extract_lets -underBinder j4
      have h4:∀ u,ok P T (j4 u):=fun u=>aC (ay _) fun n=>hn n
      clear_value j4
      exact bq (aC (dU _) fun _=>aC (bF _) fun _=>h4 _) (h4 _)
     clear_value j3
     exact bq (aC (bF _) fun _=>h3 _) (h3 _)
    clear_value jp
    cases o3 with
    | none=>exact aC (ay _) fun z=>hj z
    | some xt=>exact aC (aK _) fun _=>aC (ay _) fun z=>hj z
end Cc
end
section
open Go.Conc
namespace Cc
variable {P:Program}
theorem zH{α β:Type}{f:α->β->Sem (ForInStep β)}(h:∀ a s,ok P T (f a s)):∀ (l:List α)(b:β),ok P T (forIn l b f:Sem β)
 | [],b=>by rw[qbL];exact ay _
 | a::l,b=>by
  rw[qbn];refine aC (h a b) fun s=>?_
  cases s with
  | done b=>exact ay _
  | yield b=>exact zH h l b
theorem tC(r:Nat):ok P T (viewAt r):=by
 unfold viewAt
 repeat' (first|(with_reducible first|refine aC ?_ (fun _=>?_)|refine bq ?_ ?_|exact ay _|exact dP _|exact oW _)| split| dsimp only)
theorem zY(r:Nat):ok P T (numberAt r):=by
 unfold numberAt
 repeat' (first|(with_reducible first|refine aC ?_ (fun _=>?_)|refine bq ?_ ?_|exact ay _|exact dP _|exact oW _)| split| dsimp only)
theorem mg(a:Addr):ok P T (behindNumber a):=by
 unfold behindNumber
 repeat' (first|(with_reducible first|refine aC ?_ (fun _=>?_)|exact ay _|exact zY _)| split| dsimp only)
theorem Hl(a:Addr):ok P T (noView a):=by
 unfold noView
 repeat' (first|(with_reducible first|refine aC ?_ (fun _=>?_)|refine bq ?_ ?_|exact ay _|exact bH _|exact tC _)| split| dsimp only)
theorem Ii(a:Addr):ok P T (stringish a):=by
 unfold stringish
 repeat' (first|(with_reducible first|refine aC ?_ (fun _=>?_)|refine bq ?_ ?_|exact ay _|exact dP _|exact zx _)| split| dsimp only)
theorem Mh(a b:Addr):ok P T (mayBeOne a b):=by
 unfold mayBeOne
 repeat' (first|(with_reducible first|refine aC ?_ (fun _=>?_)|exact ay _|exact dP _|exact Ii _)| split| dsimp only)
theorem Ar(a b:Addr):ok P T (sameAddr a b):=by
 unfold sameAddr
 repeat' (first|(with_reducible first|refine aC ?_ (fun _=>?_)|refine bq ?_ ?_|exact ay _|exact bH _|exact dU _|exact zx _|exact Hl _|exact Mh _ _)| split| dsimp only)
theorem EC(a b:Option Addr):ok P T (samePointer a b):=by
 unfold samePointer
 repeat' (first|(with_reducible first|exact ay _|exact Ar _ _)| split| dsimp only)
theorem uj(a:Addr):ok P T (byteOf a):=by
 unfold byteOf
 repeat' (first|(with_reducible first|refine aC ?_ (fun _=>?_)|refine bq ?_ ?_|exact ay _|exact aA _|exact bO|exact dP _|exact Hl _)| split| dsimp only)
theorem xB(a b:Addr):ok P T (Op.twoPlaces a b):=by
 unfold Op.twoPlaces
 repeat' (first|(with_reducible first|refine aC ?_ (fun _=>?_)|refine bq ?_ ?_|exact ay _|exact bH _|exact bO|exact uj _)| split| dsimp only)
theorem Pn(k:IntKind)(a b:Addr):ok P T (Op.addrSub k a b):=by
 unfold Op.addrSub
 repeat' (first|(with_reducible first|refine aC ?_ (fun _=>?_)|exact ay _|exact xB _ _)| split| dsimp only)
theorem NI(o:BinOp)(a b:Addr):ok P T (Op.addrCmp o a b):=by
 unfold Op.addrCmp
 repeat' (first|(with_reducible first|refine aC ?_ (fun _=>?_)|exact ay _|exact bH _|exact xB _ _)| split| dsimp only)
theorem PG(k:IntKind)(a:Addr)(n:Int):ok P T (Op.addrMod k a n):=by
 unfold Op.addrMod
 repeat' (first|(with_reducible first|refine aC ?_ (fun _=>?_)|refine bq ?_ ?_|exact ay _|exact bH _|exact dN _|exact dP _|exact uj _)| split| dsimp only)
theorem Nf(t:TypeId):ok P T (typeStr t):=by
 unfold typeStr
 repeat' (first|(with_reducible first|refine aC ?_ (fun _=>?_)|refine bq ?_ ?_|exact ay _|exact bH _|exact dN _)| split| dsimp only)
theorem Aq(a:Addr)(b:Bool):ok P T (asNumber a b):=by
 unfold asNumber
 repeat' (first|(with_reducible first|refine aC ?_ (fun _=>?_)|exact ay _|exact kP _)| split| dsimp only)
theorem uV(o:BinOp)(k:FloatKind)(x y:Nat):ok P T (Op.floatArith o k x y):=by
 unfold Op.floatArith
 repeat' (first|(with_reducible first|refine aC ?_ (fun _=>?_)|exact ay _|exact aA _|exact dU _)| split| dsimp only)
theorem Ay(o:BinOp)(k:FloatKind)(x y:Nat):ok P T (Op.floatCmp o k x y):=by
 unfold Op.floatCmp
 repeat' (first|(with_reducible first|exact ay _|exact aA _)| split| dsimp only)
theorem jd(k:FloatKind)(x:Nat)(d:FloatKind):ok P T (Conv.floatToFloat k x d):=by
 unfold Conv.floatToFloat
 repeat' (first|(with_reducible first|refine aC ?_ (fun _=>?_)|refine bq ?_ ?_|exact ay _|exact dU _)| split| dsimp only)
theorem oQ(o:BinOp)(k:FloatKind)(x y:Nat):ok P T (Op.Complex.arith o k x y):=by
 unfold Op.Complex.arith
 repeat' (first|(with_reducible first|refine aC ?_ (fun _=>?_)|exact ay _|exact aA _|exact uV _ _ _ _)| split| dsimp only)
theorem QY(o:BinOp)(k:FloatKind)(x y:Nat):ok P T (Op.Complex.cmp o k x y):=by
 unfold Op.Complex.cmp
 repeat' (first|(with_reducible first|refine aC ?_ (fun _=>?_)|exact zJ _|exact Ay _ _ _ _)| split| dsimp only)
theorem Y5(k:FloatKind)(x:Nat)(d:FloatKind):ok P T (Op.Complex.conv k x d):=by
 unfold Op.Complex.conv
 repeat' (first|(with_reducible first|refine aC ?_ (fun _=>?_)|refine bq ?_ ?_|exact ay _|exact aA _|exact jd _ _ _)| split| dsimp only)
theorem IZ(x y:Nat):ok P T (Op.Complex.add x y):=oQ _ _ _ _
theorem Hu(x y:Nat):ok P T (Op.Complex.sub x y):=oQ _ _ _ _
theorem Hq(x y:Nat):ok P T (Op.Complex.mul x y):=oQ _ _ _ _
theorem aaB(x y:Nat):ok P T (Op.Complex.quo x y):=oQ _ _ _ _
theorem J3(a b c d:Nat):ok P T (Op.Complex.product a b c d):=by
 unfold Op.Complex.product
 repeat' (first|(with_reducible first|refine aC ?_ (fun _=>?_)|exact ay _|exact IZ _ _|exact Hu _ _|exact Hq _ _)| split| dsimp only)
theorem FI(s a b c d:Nat):ok P T (Op.Complex.corrected s a b c d):=by
 unfold Op.Complex.corrected
 repeat' (first|(with_reducible first|refine aC ?_ (fun _=>?_)|exact ay _|exact IZ _ _|exact Hu _ _|exact Hq _ _)| split| dsimp only)
theorem Iu(a b c d:Nat):ok P T (Op.Complex.quotient a b c d):=by
 unfold Op.Complex.quotient
 repeat' (first|(with_reducible first|refine aC ?_ (fun _=>?_)|refine bq ?_ ?_|exact ay _|exact QY _ _ _ _|exact IZ _ _|exact Hu _ _|exact Hq _ _|exact aaB _ _|exact FI _ _ _ _ _)| split| dsimp only)
theorem Iz(o:BinOp)(k:FloatKind)(a b c d:Nat):ok P T (Op.complexOp o k a b c d):=by
 unfold Op.complexOp
 repeat' (first|(with_reducible first|refine aC ?_ (fun _=>?_)|refine bq ?_ ?_|exact ay _|exact aA _|exact oQ _ _ _ _|exact QY _ _ _ _|exact Y5 _ _ _|exact J3 _ _ _ _|exact Iu _ _ _ _)| split| dsimp only)
theorem xG(ts:Array TypeId)(t:TypeId)(x y:Value):ok P T (Builtin.unsafeAdd_ ts t #[x,y]):=by
 unfold Builtin.unsafeAdd_
 cases x <;> first|exact aA _|skip
 refine aC (sF y) (fun n=>?_)
 repeat' (first|(with_reducible first|refine aC ?_ (fun _=>?_)|refine bq ?_ ?_|exact ay _|exact aA _|exact bH _|exact sF _|exact bO|exact dP _|exact tC _)| split| dsimp only)
theorem Du(t:TypeId)(x y:Value):ok P T (movedNumber t x y):=by
 unfold movedNumber
 repeat' (first|(with_reducible first|refine aC ?_ (fun _=>?_)|refine bq ?_ ?_|exact ay _|exact bH _|exact aK _|exact mg _|exact Aq _ _|exact xG _ _ _ _)| split| dsimp only)
theorem AU(t:TypeId)(x y:Value):ok P T (movedPointer t x y):=by
 unfold movedPointer
 repeat' (first|(with_reducible first|refine aC ?_ (fun _=>?_)|refine bq ?_ ?_|exact bH _|exact zY _|exact xG _ _ _ _)| split| dsimp only)
theorem uf{α β:Type}{f:α->β->Sem (ForInStep β)}(h:∀ a s,ok P T (f a s))(l:Array α)(b:β):ok P T (forIn l b f:Sem β):=by
 rw[<-qbi];exact zH h _ _
theorem Gw{β:Type}{f:Nat->β->Sem (ForInStep β)}(h:∀ a s,ok P T (f a s))(n:Nat)(b:β):ok P T (forIn [0:n] b f:Sem β):=by
 rw[qbw];exact zH h _ _
theorem Fv(k:FloatKind)(n:Int):ok P T (Conv.intToFloat k n):=by
 unfold Conv.intToFloat
 repeat' (first|(with_reducible exact ay _)| split| dsimp only)
end Cc
end
section
open Go.Conc
namespace Cc
variable {P:Program}
theorem qd(a:Addr):ok P T (markStringish a):=by
 unfold markStringish;refine aC (dP _) fun o=>?_
 split
 .exact F4 _ _
 .exact ay _
theorem ED:∀ (d:Nat)(t:TypeId)(x y:Value),ok P T (Op.equalIn d t x y)
 | 0,t,x,y=>bH _
 | d+1,t,x,y=>by
  have ih:=ED d;unfold Op.equalIn
  repeat' (first|(with_reducible first|refine aC ?_ (fun _=>?_)|refine bq ?_ ?_|exact ay _|exact aA _|exact bH _|exact bF _|exact aK _|exact bM _|exact dN _|exact wI _ _ _|exact dU _|exact bO|exact mg _|exact Ar _ _|exact EC _ _|exact uj _|exact Nf _|refine uf (fun _ _=>?_) _ _|refine Gw (fun _ _=>?_) _ _|exact ih _ _ _)| split| dsimp only)
theorem wN:∀ (d:Nat)(t:TypeId)(x y:Value),ok P T (Op.eqGuardIn d t x y)
 | 0,t,x,y=>bH _
 | d+1,t,x,y=>by
  have ih:=wN d;unfold Op.eqGuardIn
  repeat' (first|(with_reducible first|refine aC ?_ (fun _=>?_)|refine bq ?_ ?_|exact ay _|exact bH _|exact aK _|exact bM _|exact wI _ _ _|refine uf (fun _ _=>?_) _ _|refine Gw (fun _ _=>?_) _ _|exact ih _ _ _)| split| dsimp only)
theorem Xo(t:TypeId)(x y:Value):ok P T (Op.equal t x y):=ED _ t x y
theorem Oh(o:BinOp)(t:TypeId)(x y:Operand)(a b:Value):ok P T (eqGuard o t x y a b):=by
 unfold eqGuard
 repeat' (first|(with_reducible first|refine aC ?_ (fun _=>?_)|refine bq ?_ ?_|exact ay _|exact bH _|exact bO|exact wN _ _ _ _)| split| dsimp only)
theorem YM(o:BinOp)(t:TypeId)(x y:Value):ok P T (binOp o t x y):=by
 unfold binOp
 repeat' (first|(with_reducible first|refine aC ?_ (fun _=>?_)|refine bq ?_ ?_|exact ay _|exact aA _|exact bH _|exact aK _|exact mg _|exact Pn _ _ _|exact NI _ _ _|exact PG _ _ _|exact La _ _ _ _|exact Sj _ _ _|exact P6 _ _ _ _|exact Si _ _ _ _|exact Zf _ _ _ _ _|exact Ac _ _ _|exact uV _ _ _ _|exact Ay _ _ _ _|exact Iz _ _ _ _ _ _|exact Du _ _ _|exact AU _ _ _|exact Xo _ _ _)| split| dsimp only)
theorem aaT(x y:Value):ok P T (Builtin.min2 x y):=by
 unfold Builtin.min2
 repeat' (first|(with_reducible first|refine aC ?_ (fun _=>?_)|exact ay _|exact aA _|exact bH _|exact zJ _|exact dU _|exact Ac _ _ _)| split| dsimp only)
theorem Gq{α β:Type}{f:β->α->Sem β}(h:∀ s a,ok P T (f s a)):∀ (l:List α)(b:β),ok P T (l.foldlM f b)
 | [],b=>ay _
 | a::l,b=>aC (h b a) fun s=>Gq h l s
theorem acp(ts:Array TypeId)(t:TypeId)(xs:Array Value):ok P T (Builtin.min_ ts t xs):=by
 unfold Builtin.min_;split
 .exact aA _
 .exact Gq (fun s a=>aaT s a) _ _
theorem yY(e:TypeId)(s:ByteArray):ok P T (Conv.stringToBytes e s):=by
 unfold Conv.stringToBytes
 repeat' (first|(with_reducible first|refine aC ?_ (fun _=>?_)|exact ay _|exact kI _ _|exact dU _|exact qd _)| split| dsimp only)
theorem yJ(x:Value):ok P T (Conv.bytesToString x):=by
 unfold Conv.bytesToString
 repeat' (first|(with_reducible first|refine aC ?_ (fun _=>?_)|exact ay _|exact aA _|exact mG _ _|refine uf (fun _ _=>?_) _ _)| split| dsimp only)
end Cc
end
section
open Go.Conc
namespace Cc
section
variable {P:Program}
theorem Ue(a:Addr)(c b:Nat):ok P T (partAt a c b):=by
 unfold partAt
 repeat' (first|(with_reducible first|refine aC ?_ (fun _=>?_)|exact ay _|exact uj _)| split| dsimp only)
theorem EY(a:Addr)(f:Field):ok P T (fieldPlace a f):=by
 unfold fieldPlace;refine aC (bM _) fun _=>bq (Ue _ _ _) (ay _)
theorem NK(t:TypeId)(x:Value)(f:Nat):ok P T (Instr.fieldAt t x f):=by
 unfold Instr.fieldAt;refine aC (aK _) fun d=>?_
 split
 .split
  .exact aC (lD _) fun _=>aC (EY _ _) fun _=>ay _
  .exact aA _
 .exact aA _
theorem rZ(a:Addr)(u:TypeId)(n:Nat):ok P T (variablesAt a u n):=by
 unfold variablesAt
 repeat' (first|(with_reducible first|refine aC ?_ (fun _=>?_)|exact ay _|exact bO|exact dP _)| split| dsimp only)
theorem Y6{α β:Type}{f:α->Sem β}(h:∀ a,ok P T (f a))(l:Array α):ok P T (l.mapM f):=by
 rw[qaP];refine NG ?_
 induction l.toList with
 | nil=>rw[qbs];exact ay _
 | cons a l ih=>rw[qbj];exact aC (h a) fun _=>aC ih fun _=>ay _
theorem Mc(t:TypeId)(ps:Array (Nat×Value)):ok P T (Instr.build t ps):=by
 unfold Instr.build;refine aC (iJ _) fun _=>aC (aK _) fun d=>?_
 split
 .refine aC (Y6 (fun _=>aC (bM _) fun _=>ay _) _) fun _=>?_
  split
  .exact ay _
  .exact aA _
 .refine aC (bM _) fun _=>?_
  split
  .exact ay _
  .exact aA _
 .exact aA _
theorem zK(t:TypeId)(x:Value):ok P T (Instr.makeInterface t x):=by
 unfold Instr.makeInterface
 repeat' (first|(with_reducible first|refine aC ?_ (fun _=>?_)|exact ay _|exact aA _|exact aK _)| split| dsimp only)
theorem acC(ts:Array TypeId)(t:TypeId)(xs:Array Value):ok P T (Builtin.cap_ ts t xs):=by
 unfold Builtin.cap_
 repeat' (first|(with_reducible first|refine aC ?_ (fun _=>?_)|exact ay _|exact aA _|exact aK _|exact oW _)| split| dsimp only)
theorem aa3(ts:Array TypeId)(t:TypeId)(xs:Array Value):ok P T (Builtin.copy_ ts t xs):=by
 unfold Builtin.copy_
 repeat' (first|(with_reducible first|refine aC ?_ (fun _=>?_)|exact ay _|exact aA _|exact aK _|exact bM _|exact LZ _|exact oI _ _ _|exact iV _ _ _)| split| dsimp only)
theorem acY(ts:Array TypeId)(t:TypeId)(xs:Array Value):ok P T (Builtin.unsafeSliceData_ ts t xs):=by
 unfold Builtin.unsafeSliceData_;obtain⟨l⟩:=xs;rcases l with _|⟨x,_|⟨y,l⟩⟩
 .exact aA _
 .cases x <;> first|exact aA _|skip
  rename_i a n c
  cases a with
  | none=>exact ay _
  | some a =>
   show ok P T (if c≠0 then _ else _)
   repeat' (first|(with_reducible first|refine aC ?_ (fun _=>?_)|refine bq ?_ ?_|exact ay _|exact aA _|exact um _|exact tC _|exact kP _)| split| dsimp only)
 .exact aA _
theorem wS:∀ (n:Nat)(a:Addr)(acc:ByteArray),ok P T (loadBytes a acc n)
 | 0,a,acc=>by unfold loadBytes;exact ay _
 | n+1,a,acc=>by
  unfold loadBytes;refine aC (Bf _) fun v=>?_
  split
  .exact wS n _ _
  .exact aA _
theorem abn(ts:Array TypeId)(t:TypeId)(xs:Array Value):ok P T (Builtin.unsafeString_ ts t xs):=by
 unfold Builtin.unsafeString_;obtain⟨l⟩:=xs;rcases l with _|⟨x,_|⟨y,_|⟨z,l⟩⟩⟩
 .exact aA _
 .cases x <;> exact aA _
 .cases x <;> first|exact aA _|skip
  rename_i p
  refine aC (sF _) fun n=>?_
  split
  .dsimp only
   have h2:∀ (p:Option Addr)(pt:TypeId),ok P T (match p with
     | none=>if n=0 then(pure (.string .empty):Sem Value) else runtimePanic (.error "unsafe.String: ptr is nil and len is not zero")
     | some a=>if n=0 then pure (.string .empty) else do
       if <-variablesAt a (<- elemOf pt) n.toNat then do
        let s <-loadBytes a .empty n.toNat
        freeze a n.toNat
        pure (.string s)
       else unsupported (.unsafePointer "String: not so many bytes at ptr")):=fun p pt=>by
    cases p with
    | none=>exact bq (ay _) (bF _)
    | some a=>exact bq (ay _) (aC (um _) fun _=>aC (rZ _ _ _) fun _=>bq (aC (wS _ _ _) fun _=>aC (F4 _ _) fun _=>ay _) (bH _))
   refine bq (aC (bF _) fun _=>?_) ?_
   .exact bq (aC (bH _) fun _=>h2 _ _) (h2 _ _)
   .exact bq (aC (bH _) fun _=>h2 _ _) (h2 _ _)
  .exact aA _
 .cases x <;> exact aA _
theorem OJ(r:Nat):ok P T (cellsIn r):=by
 unfold cellsIn
 repeat' (first|(with_reducible first|refine aC ?_ (fun _=>?_)|exact ay _|exact dP _|exact oW _)| split| dsimp only)
theorem Gc(a:Addr):ok P T (Conv.seenAt a):=by
 unfold Conv.seenAt
 repeat' (first|(with_reducible first|refine aC ?_ (fun _=>?_)|refine bq ?_ ?_|exact ay _|exact bH _|exact bO|exact dP _|exact tC _)| split| dsimp only)
theorem wK(s d:TypeId)(x:Value):ok P T (Conv.unsafePointer s d x):=by
 unfold Conv.unsafePointer;refine aC (aK _) fun ds=>aC (aK _) fun dd=>?_
 split
 .exact ay _
 .refine aC (Gc _) fun s=>aC (OJ _) fun c=>aC (bM _) fun n=>?_
  repeat' (first|(with_reducible first|refine aC ?_ (fun _=>?_)|refine bq ?_ ?_|exact ay _|exact aA _|exact bH _|exact aK _|exact bM _|exact bO|exact dP _|exact kP _)| split| dsimp only)
 .exact ay _
 .refine aC (Gc _) fun s=>aC (bM _) fun n=>?_
  refine aC (rZ _ _ _) fun b=>bq (ay _) (aC (dP _) fun sh=>?_)
  dsimp only
  split
  .refine aC bO fun p=>aC bO fun q=>bq (aC (bH _) fun _=>?_) ?_
   .repeat' (first|(with_reducible first|refine aC ?_ (fun _=>?_)|refine bq ?_ ?_|exact ay _|exact aA _|exact bH _|exact aK _|exact bM _|exact bO|exact dP _|exact kP _)| split| dsimp only)
   .repeat' (first|(with_reducible first|refine aC ?_ (fun _=>?_)|refine bq ?_ ?_|exact ay _|exact aA _|exact bH _|exact aK _|exact bM _|exact bO|exact dP _|exact kP _)| split| dsimp only)
  .refine aC (bH _) fun _=>?_
   repeat' (first|(with_reducible first|refine aC ?_ (fun _=>?_)|refine bq ?_ ?_|exact ay _|exact aA _|exact bH _|exact aK _|exact bM _|exact bO|exact dP _|exact kP _)| split| dsimp only)
 .exact ay _
 .exact ay _
 .exact Aq _ _
 .exact bH _
 .exact bH _
 .exact bH _
 .exact aA _
theorem jY:∀ (l:List FieldStep)(t:TypeId)(x:Option Value),ok P T (followBlind l t x)
 | [],t,x=>by unfold followBlind;exact ay _
 | s::l,t,x=>by
  unfold followBlind;refine aC (aK _) fun d=>?_
  split
  .split
   .split
    .exact ay _
    .exact jY l _ _
    .exact aA _
    .exact ay _
    .exact aC (wI _ _ _) fun _=>jY l _ _
    .exact aA _
    .exact jY l _ _
   .exact aA _
  .exact aA _
theorem Av:∀ (n:Nat)(t:TypeId)(v:Value)(name:String),ok P T (nilAhead n t v name)
 | 0,t,v,name=>by unfold nilAhead;exact ay _
 | n+1,t,v,name=>by
  unfold nilAhead;refine aC (dN _) fun i=>?_
  split
  .refine aC (jY _ _ _) fun r=>?_
   split
   .exact ay _
   .split
    .exact Av n _ _ _
    .exact ay _
    .exact aA _
    .exact ay _
    .exact ay _
    .refine aC (aK _) fun _=>?_
     split <;> exact ay _
  .exact aA _
theorem Fq(ps rs:Array TypeId)(xs:Array Value):ok P T (Extern.BytealgMakeNoZero.makeNoZero ps rs xs):=by
 unfold Extern.BytealgMakeNoZero.makeNoZero;obtain⟨l⟩:=xs
 cases rs[0]? with
 | none =>
  rcases l with _|⟨x,_|⟨y,l⟩⟩
  .exact aA _
  .cases x <;> first|exact aA _|skip
   rename_i k n
   cases k <;> exact aA _
  .exact aA _
 | some t =>
  rcases l with _|⟨x,_|⟨y,l⟩⟩
  .exact aA _
  .cases x <;> first|exact aA _|skip
   rename_i k n
   cases k <;> first|exact aA _|skip
   refine aC (aK _) fun d=>?_
   repeat' (first|(with_reducible first|refine aC ?_ (fun _=>?_)|refine bq ?_ ?_|exact ay _|exact aA _|exact bF _|exact aK _|exact kI _ _|exact dU _|exact vP _)| split| dsimp only)
  .exact aA _
theorem MC(xs:Array Value):ok P T (Extern.AbiNoEscape.same xs):=by
 unfold Extern.AbiNoEscape.same;obtain⟨l⟩:=xs;rcases l with _|⟨x,_|⟨y,l⟩⟩
 .exact aA _
 .exact ay _
 .exact aA _
theorem vg:∀ (n:Nat)(a:Addr)(acc:ByteArray),ok P T (Extern.Bytes.loadBytes a n acc)
 | 0,a,acc=>by unfold Extern.Bytes.loadBytes;exact ay _
 | n+1,a,acc=>by
  unfold Extern.Bytes.loadBytes;refine aC (Bf _) fun v=>?_
  split
  .exact vg n _ _
  .exact aA _
theorem K9(v:Value):ok P T (Extern.Bytes.bytesOf v):=by
 unfold Extern.Bytes.bytesOf;split
 .exact ay _
 .exact ay _
 .exact vg _ _ _
 .exact aA _
theorem Iy(xs:Array Value):ok P T (Extern.BytealgIndexByte.indexByte xs):=by
 unfold Extern.BytealgIndexByte.indexByte;obtain⟨l⟩:=xs;rcases l with _|⟨x,_|⟨y,_|⟨z,l⟩⟩⟩
 .exact aA _
 .exact aA _
 .refine aC (K9 _) fun _=>aC ?_ fun _=>?_
  .unfold Extern.Bytes.asByte
   repeat' (first|(with_reducible first|refine aC ?_ (fun _=>?_)|exact ay _|exact aA _)| split| dsimp only)
  .repeat' (first|(with_reducible first|refine aC ?_ (fun _=>?_)|exact ay _|exact aA _)| split| dsimp only)
 .exact aA _
end
end Cc
end
section
open Go.Conc
namespace Cc
def oD(P:Program)(L:List FuncId)(f:FuncId):Bool:=L.contains f&&(match P.funcs[f]? with|some fn=>fn.name != "runtime.NumGoroutine"&&fn.body.isSome|none=>false)
def IG:Option TypeDesc->Bool
 | some _=>true
 | none=>false
def yI(P:Program)(L:List FuncId)(f:FuncId):Bool:=L.contains f&&(match P.funcs[f]? with|some fn=>fn.body.isNone|none=>false)
def bT(P:Program)(L:List FuncId):Op->Bool
 | .move _|.assign _|.pick ..|.alloc _|.box ..|.buildSlice ..|.load ..|.store ..|.binOp ..|.unOp ..|.makeSlice ..|.slice ..|.indexAddr ..|.index ..|.extract ..|.sliceToArrayPointer ..|.field ..|.build ..|.fieldAddr ..|.nilCheck _|.makeInterface ..=>true
 | .convert s d _=>IG (P.underlying s)&&IG (P.underlying d)
 | .call c=>match c.callee with
  | .builtin .len|.builtin .append|.builtin .min|.builtin .cap|.builtin .copy|.builtin .unsafeString|.builtin .unsafeSliceData=>true
  | .value (.func f)=>oD P L f||yI P L f
  | _=>false
 | _=>false
def Wy:Op->Bool
 | .panic _=>true
 | _=>false
def nI(P:Program)(L:List FuncId):Next->Prop
 | .value _|.skip=>True
 | .enter f _=>oD P L f=true
 | _=>False
def J8(P:Program)(L:List FuncId):Prop:=∀ f,yI P L f=true->∀ args,ok P (nI P L) (callFunc f args)
theorem zF(P:Program):J8 P []:=fun f h=>by unfold yI at h;simp at h
section
variable {P:Program}{L:List FuncId}
theorem J6{α:Type}{D:α->Prop}{t:TypeId}{d:TypeDesc}{f:TypeDesc->Sem α}(h:P.underlying t=some d)(hf:ok P D (f d)):ok P D (underlying t >>= f):=by
 show ok P D ((underlying t).bind f);have:ok P (fun x=>x=d) (underlying t):=by
  show ok P (fun x=>x=d) (program >>= fun p=>_);show ok P (fun x=>x=d) (match P.underlying t with|some d=>pure d|none=>stuck "no such type");rw[h];exact rfl
 exact d9 (fun a ha=>by subst ha;exact hf) this
theorem lg{s:Sem Value}(h:ok P T s):ok P (nI P L) (do pure (.value (<- s))):=by
 show ok P (nI P L) (s.bind fun a=>.pure (.value a));exact d9 (P:=P) (C:=T) (D:=nI P L) (f:=fun a=>Sem.pure (Next.value a)) (fun a _=>(trivial:nI P L (.value a))) h
theorem agk{s:Sem Unit}(h:ok P T s):ok P (nI P L) (do s;pure .skip):=by
 show ok P (nI P L) (s.bind fun _=>.pure .skip);exact d9 (P:=P) (C:=T) (D:=nI P L) (f:=fun _=>Sem.pure Next.skip) (fun a _=>(trivial:nI P L .skip)) h
theorem FH(k:FloatKind)(n:Nat)(d:IntKind):ok P T (Conv.floatToInt k n d):=by
 unfold Conv.floatToInt;dsimp only
 split
 .refine bq (ay _) (aC (dU _) fun _=>ay _)
 .exact aC (dU _) fun _=>ay _
theorem uG(k:FloatKind)(a b:Nat)(d:FloatKind):ok P T (Conv.complexToComplex k a b d):=by
 unfold Conv.complexToComplex;refine aC (jd _ _ _) fun v=>?_
 split
 .refine aC (jd _ _ _) fun v=>?_
  split
  .exact ay _
  .exact aA _
 .exact aA _
theorem zu(e:TypeId)(s:ByteArray):ok P T (Conv.stringToRunes e s):=aC (dU _) fun _=>aC (kI _ _) fun _=>ay _
theorem zP(x:Value):ok P T (Conv.runesToString x):=by
 unfold Conv.runesToString;split
 .exact ay _
 .refine aC (mG _ _) fun cs=>aC (uf (fun c s=>?_) _ _) fun _=>ay _
  split
  .exact aC (ay _) fun _=>ay _
  .exact aA _
 .exact aA _
theorem PZ{s d:TypeId}(hs:IG (P.underlying s)=true)(hd:IG (P.underlying d)=true)(x:Value):ok P T (convert s d x):=by
 unfold convert
 cases hs':P.underlying s with
 | none=>rw[hs'] at hs;cases hs
 | some ds =>
  cases hd':P.underlying d with
  | none=>rw[hd'] at hd;cases hd
  | some dd =>
   rw[hs'] at hs;rw[hd'] at hd;refine J6 hs' (J6 hd' ?_);split
   .exact KN _ _
   .exact Fv _ _
   .exact FH _ _ _
   .exact jd _ _ _
   .exact uG _ _ _ _
   .exact ay _
   .exact ay _
   .refine aC (aK _) fun u=>?_
    split
    .exact yY _ _
    .exact zu _ _
    .exact aA _
   .refine aC (aK _) fun u=>?_
    split
    .exact aC (qd _) fun _=>ay _
    .exact bH _
   .refine aC (aK _) fun u=>?_
    split
    .exact yJ _
    .exact zP _
    .exact aA _
   .exact wK _ _ _
   .exact wK _ _ _
   .exact bH _
   .exact bH _
theorem Lg{f:FuncId}(h:oD P L f=true)(args:Array Value):ok P (nI P L) (callFunc f args):=by
 have h0:=h;unfold oD at h0;rw[fE] at h0
 cases hf:P.funcs[f]? with
 | none=>rw[hf] at h0;simp at h0
 | some fn =>
  rw[hf] at h0;simp only[fE,bne_iff_ne,ne_eq] at h0;unfold callFunc;show ok P (nI P L) (match P.funcs[f]? with|none=>_|some fn=>_);rw[hf];have h1:(fn.name == "runtime.NumGoroutine")=false:=by simpa using h0.2.1
  have h2:fn.body.isNone=false:=by cases hb:fn.body with|none=>rw[hb] at h0;simp at h0|some b=>rfl
  simp only[h1,h2,jI,if_false];exact h
theorem Qe{f:FuncId}{fn:Func}{e:Array Value->Sem Value}(hf:P.funcs[f]? = some fn)(hn:(fn.name == "runtime.NumGoroutine")=false)(hb:fn.body=none)(h1:Extern.findNext fn=none)(h2:Extern.find fn=some e)(he:∀ xs,ok P T (e xs))(args:Array Value):ok P (nI P L) (callFunc f args):=by
 unfold callFunc;show ok P (nI P L) (match P.funcs[f]? with|none=>_|some fn=>_);rw[hf];dsimp only
 rw[hn,hb];simp only[jI,if_false,Option.isNone_none,if_true];refine aC (s:=mark (.extern f)) ⟨.inr ⟨f,rfl⟩,trivial⟩ fun _=>?_
 rw[h1];dsimp only
 rw[h2];exact lg (he _)
theorem Mg{v:Value}:ok P (nI P L) (match v with
  | .pointer none|.nilIface|.nilFunc=>runtimePanic .nilDeref
  | .func (.method name) first captured =>
   match (first[0]? : Option Value) with
   | some .nilIface=>runtimePanic .nilDeref
   | some (.iface t w)=>do
    if (<- nilAhead ((<- program).types.size+Made.depth) t w name) != some false then
     unsupported (.noEntry "op/nilCheck.the method's receiver behind this interface value is a nil pointer, or cannot be seen to be none, and the arguments act or may panic (ledger 612)")
    pure (.value (.func (.method name) first captured))
   | _=>pure (.value (.func (.method name) first captured))
  | x=>pure (.value x)):=by
 split
 .exact bF _
 .exact bF _
 .exact bF _
 .split
  .exact bF _
  .exact aC bO fun p=>aC (Av _ _ _ _) fun b=>bq (aC (bH _) fun _=>trivial) trivial
  .exact trivial
 .exact trivial
theorem uy{ρ:Operand->Value}{o:Oper}(hE:J8 P L)(hρ:∀ f,ρ (.func f)=.func (.func f) #[] #[])(h:bT P L o.op=true):ok P (nI P L) (execOp ρ o):=by
 unfold execOp;dsimp only
 cases ho:o.op <;> rw[ho] at h <;> first|(cases h;done)|skip
 all_goals dsimp only
 all_goals first| exact(trivial:True)| exact lg (Y1 _ _ _)| exact lg (ad4 _ _)| exact lg (E5 _ _ _)| exact lg (Uk _ _)| exact agk (PN _ _ _)| exact lg (aC (Oh _ _ _ _ _ _) fun _=>YM _ _ _ _)| exact lg (Y0 _ _)| exact lg (Jq _ _ _)| exact lg (OL _ _ _ _ _)| exact lg (Oo _ _ _)| exact lg (YN _ _ _)| exact lg (Ox _ _)| exact lg (Pp _ _)| exact lg (XO _ _ _)| exact lg (Mc _ _)| exact lg (NK _ _ _)| exact lg (zK _ _)|(unfold bT at h;rw[fE] at h;exact lg (PZ h.1 h.2 _))| skip
 .rename_i c a b
  show ok P (nI P L) ((asBool (ρ c)).bind fun t=>.pure (.value (if t=true then ρ a else ρ b)));exact d9 (P:=P) (C:=T) (D:=nI P L) (f:=fun t=>Sem.pure (Next.value (if t=true then ρ a else ρ b))) (fun t _=>(trivial:nI P L (.value (if t=true then ρ a else ρ b)))) (zJ _)
 .exact Mg
 .rename_i c
  unfold bT at h;unfold resolve;dsimp only at h ⊢
  cases hc:c.callee with
  | builtin b =>
   rw[hc] at h
   cases b <;> first|(cases h;done)|skip
   all_goals first| exact lg (Uq _ _ _)| exact lg (ac6 _ _ _)| exact lg (acp _ _ _)| exact lg (acC _ _ _)| exact lg (aa3 _ _ _)| exact lg (abn _ _ _)| exact lg (acY _ _ _)
  | invoke r m=>rw[hc] at h;cases h
  | value f =>
   rw[hc] at h
   cases f <;> first|(cases h;done)|skip
   rename_i f
   show ok P (nI P L) (Deferred.ofValue (ρ (.func f)) (c.args.map ρ) >>= fun d=>invoke d.target d.args);rw[hρ];rw[Yb] at h;rcases h with h|h
   .exact Lg h _
   .exact hE f h _
end
end Cc
end
section
open Go.Conc
namespace Cc
def gU(P:Program)(L:List FuncId):Code->Bool
 | .skip|.exit _|.label _|.goto _|.ret|.refuse _=>true
 | .region _ ops _=>ops.all fun o=>bT P L o.op||Wy o.op
 | .seq a b=>gU P L a&&gU P L b
 | .cond _ a b=>gU P L a&&gU P L b
 | .block _ a|.loop a|.scope a=>gU P L a
 | .rangeFunc ..=>false
def jl(P:Program)(L:List FuncId):Item->Bool
 | .code c|.inLoop c|.inScope c=>gU P L c
 | .inBlock _=>true
 | .inRegion ops _=>ops.all fun o=>bT P L o.op||Wy o.op
 | _=>false
structure fO(P:Program)(L:List FuncId):Prop where
 code:∀ f,oD P L f=true->∀ fn c,P.funcs[f]? = some fn->fn.body=some c->gU P L c=true
 step:∀ g,P.stepOf g=none
 ext:J8 P L
def F(fn:FuncId)(tmps:Array Value)(todo:List Item):Frame:={fn,tmps,todo,defers:=[],mode:=.run,kind:=.normal}
def R(fn:FuncId)(tmps:Array Value)(todo:List Item):Frame:={fn,tmps,todo,defers:=[],mode:=.returning,kind:=.normal}
def Items(P:Program)(L:List FuncId)(todo:List Item):Prop:=∀ x∈todo,jl P L x=true
def MQ(P:Program)(L:List FuncId)(fr:Frame):Prop:=∃ fn tmps todo,fr=F fn tmps todo/\(P.funcs[fn]?).isSome=true/\Items P L todo
def OkR(P:Program)(fr:Frame):Prop:=∃ fn tmps todo,fr=R fn tmps todo/\(P.funcs[fn]?).isSome=true
def Pan(P:Program)(fr:Frame):Prop:=(∃ ch,fr.mode=.panicking ch)/\fr.defers=[]/\(P.funcs[fr.fn]?).isSome=true
structure Ez(P:Program)(fr:Frame)(cs:List Frame)(w:World)(n:Nat)(fr':Frame)(cs':List Frame)(w':World)(es:Array Event):Prop where
 eq:∀ B τ d,(∀ i,i<n->τ (d+i)=w.tape (w.drawn+i))->stepG P true (G fr (cs++B)) (tp w τ d)=.go (G fr' (cs'++B)) (tp w' τ (d+n)) es
 drawn:w'.drawn=w.drawn+n
 tape:w'.tape=w.tape
 size:w.heap.size<=w'.heap.size
 low:∀ e∈es,Low w'.heap.size e
inductive DX(P:Program)(L:List FuncId)(fr:Frame)(cs:List Frame)(w:World):Prop
 | go (n:Nat) (fr':Frame) (cs':List Frame) (w':World) (es:Array Event) (h:Ez P fr cs w n fr' cs' w' es) (h1:MQ P L fr'\/OkR P fr') (h2:∀ c∈cs',MQ P L c)
 | panic (n:Nat) (fr':Frame) (w':World) (es:Array Event) (h:∀ B τ d,(∀ i,i<n->τ (d+i)=w.tape (w.drawn+i))->stepG P true (G fr (cs++B)) (tp w τ d)=.go (G fr' (cs++B)) (tp w' τ (d+n)) es) (h1:Pan P fr')
 | ended (n:Nat) (h:∀ B τ d,(∀ i,i<n->τ (d+i)=w.tape (w.drawn+i))->∃ o w' es,stepG P true (G fr (cs++B)) (tp w τ d)=.ended o w' es)
section
variable {P:Program}{L:List FuncId}
theorem aH{x:Item}{k:List Item}:Items P L (x::k)↔jl P L x=true/\Items P L k:=by simp[Items]
theorem jo{id:Nat}:∀ {k k':List Item},exitTo id k=some k'->Items P L k->Items P L k'
 | [],k',h,_=>by simp[exitTo] at h
 | x::k,k',h,hk=>by
  rw[aH] at hk
  cases x <;> simp only[exitTo] at h <;> first|exact jo h hk.2|skip
  split at h
  .cases h;exact hk.2
  .exact jo h hk.2
theorem nG:∀ {c:Code}{l:Nat}{r:Code},findLabel c l=some r->gU P L c=true->gU P L r=true
 | .seq a b,l,r,h,hc=>by
  simp only[gU,fE] at hc;simp only[findLabel] at h
  cases ha:findLabel a l with
  | some x=>rw[ha] at h;cases h;simp only[gU,fE];exact⟨nG ha hc.1,hc.2⟩
  | none=>rw[ha] at h;exact nG h hc.2
 | .label m,l,r,h,hc=>by
  simp only[findLabel] at h;split at h
  .cases h;rfl
  .cases h
 | .skip,_,_,h,_|.exit _,_,_,h,_|.goto _,_,_,h,_|.ret,_,_,h,_|.region ..,_,_,h,_|.cond ..,_,_,h,_|.block ..,_,_,h,_|.loop _,_,_,h,_|.scope _,_,_,h,_|.rangeFunc ..,_,_,h,_|.refuse _,_,_,h,_=>by simp[findLabel] at h
theorem ji{l:Nat}:∀ {k k':List Item},gotoIn l k=some k'->Items P L k->Items P L k'
 | [],k',h,_=>by simp[gotoIn] at h
 | x::k,k',h,hk=>by
  rw[aH] at hk
  cases x <;> simp only[gotoIn] at h <;> first|exact ji h hk.2|skip
  rename_i body
  cases hb:findLabel body l with
  | none=>rw[hb] at h;exact ji h hk.2
  | some r =>
   rw[hb] at h;cases h
   rw[aH,aH];exact⟨nG hb hk.1,hk.1,hk.2⟩
theorem xY(fn:FuncId)(tmps:Array Value){todo:List Item}(h:Items P L todo)(v:Value):∃ bQ todo',(F fn tmps todo).finish v=F fn bQ todo'/\Items P L todo':=by
 cases todo with
 | nil=>exact⟨tmps,[],rfl,h⟩
 | cons x k =>
  have hh:=aH.1 h
  cases x with
  | inRegion ops l =>
   cases l with
   | nil=>exact⟨tmps,_,rfl,h⟩
   | cons i l=>exact⟨_,.inRegion ops l::k,rfl,aH.2 ⟨hh.1,hh.2⟩⟩
  | code c=>exact⟨tmps,_,rfl,h⟩
  | inBlock id=>exact⟨tmps,_,rfl,h⟩
  | inLoop c=>exact⟨tmps,_,rfl,h⟩
  | inScope c=>exact⟨tmps,_,rfl,h⟩
  | _=>exact absurd hh.1 (by simp[jl])
theorem yL{fr fr':Frame}{cs cs':List Frame}{w:World}(h:∀ B w,stepG P true (G fr (cs++B)) w=.go (G fr' (cs'++B)) w #[]):Ez P fr cs w 0 fr' cs' w #[] :=⟨fun B τ d _=>h B _,rfl,rfl,aY _,by simp⟩
theorem moves{fn:FuncId}{tmps:Array Value}{todo todo':List Item}{cs:List Frame}{w:World}(hfn:(P.funcs[fn]?).isSome=true)(hcs:∀ c∈cs,MQ P L c)(hi:Items P L todo')(h:∀ B w,stepG P true (G (F fn tmps todo) (cs++B)) w=.go (G (F fn tmps todo') (cs++B)) w #[]):DX P L (F fn tmps todo) cs w :=.go 0 _ cs w #[] (yL h) (.inl ⟨fn,tmps,todo',rfl,hfn,hi⟩) hcs
theorem Xz{fn:FuncId}{es:Array Event}:∀ e∈seen P fn es,∀ f,e.loc≠.mark (.extern f):=by
 unfold seen;dsimp only
 rw[<-qb4];have key:∀ (l:List Event)(q:Bool)(kept:Array Event),(∀ e∈kept,∀ f,e.loc≠.mark (.extern f))->∀ e∈(l.foldl (fun (x:Bool×Array Event) e=>match e.loc with
   | .mark (.extern f)=>((P.funcs[f]?).any (·.norace),x.2)
   | _=>(x.1,if x.1&&!e.sync then x.2 else x.2.push e)) (q,kept)).2,∀ f,e.loc≠.mark (.extern f):=by
  intro l
  induction l with
  | nil=>intro q kept h;exact h
  | cons a l ih =>
   intro q kept h;rw[Xu];dsimp only
   split
   .exact ih _ _ h
   .rename_i hne
    refine ih _ _ ?_;split
    .exact h
    .intro e he f;rcases Array.mem_push.1 he with he|rfl
     .exact h e he f
     .exact hne f
 exact key _ _ _ (by simp)
theorem fM{m:Nat}{fn:FuncId}{es:Array Event}(h:∀ e∈es,EX m e):∀ e∈seen P fn es,Low m e:=fun e he=>(h e (mem_seen he)).elim id fun⟨f,hf⟩=>absurd hf (Xz e he f)
theorem qR{m:Nat}{es':Array Event}(h:∃ u,es'=#[]++u/\∀ e∈u,EX m e):∀ e∈es',EX m e:=by
 obtain⟨u,h1,h2⟩:=h;rw[h1];simpa using h2
theorem Ri(hP:fO P L){f:FuncId}(hf:oD P L f=true)(args:Array Value):MQ P L (Frame.enter P f args .normal):=by
 have h0:=hf;unfold oD at h0;rw[fE] at h0
 cases hfn:P.funcs[f]? with
 | none=>rw[hfn] at h0;simp at h0
 | some fn =>
  rw[hfn] at h0;simp only[fE] at h0
  cases hb:fn.body with
  | none=>rw[hb] at h0;simp at h0
  | some c =>
   refine⟨f,args++Array.replicate (fn.ntmps-args.size) au,[.code c],by simp[Frame.enter,F,hfn,hb],by rw[hfn];rfl,?_⟩;intro x hx;rw[qbk] at hx;subst hx;exact hP.code f hf fn c hfn hb
theorem D9(hP:fO P L)(fr:Frame)(g:Nat)(w:World):(∃ c e,w.heap[g]? = some (.pending c e)/\∀ cs τ d,early P fr cs none g (tp w τ d)=.go (G fr cs) (tp {w with heap:=w.heap.setIfInBounds g (.cells c e)} τ d) #[])\/∀ cs τ d,∃ o,early P fr cs none g (tp w τ d)=.ended o (tp w τ d) #[]:=by
 by_cases hf:P.follows .staticDataAhead=true
 .refine .inr fun cs τ d=>?_
  unfold early;simp only[hf,hP.step g,qb1,jI,if_false];exact⟨_,rfl⟩
 .have hf':P.follows .staticDataAhead=false:=by simpa using hf
  by_cases hc:∃ c e,w.heap[g]? = some (.pending c e)
  .obtain⟨c,e,hc⟩:=hc;refine .inl ⟨c,e,hc,fun cs τ d=>?_⟩;have h1:(tp w τ d).heap[g]? = some (.pending c e):=hc;unfold early;simp only[hf',qb9,if_true,h1];rfl
  .refine .inr fun cs τ d=>?_
   unfold early;simp only[hf',qb9,if_true];split
   .rename_i c e h;exact absurd ⟨c,e,h⟩ hc
   .exact⟨_,rfl⟩
theorem Dz(hP:fO P L){fn:FuncId}{tmps:Array Value}{todo:List Item}{cs:List Frame}{w:World}{s:Sem Next}(hfn:(P.funcs[fn]?).isSome=true)(hi:Items P L todo)(hcs:∀ c∈cs,MQ P L c)(hs:ok P (nI P L) s)(hst:∀ B w,stepG P true (G (F fn tmps todo) (cs++B)) w=stepG.apply P true (F fn tmps todo) (cs++B) none s w):DX P L (F fn tmps todo) cs w:=by
 obtain⟨n,r,es',hr⟩:=dZ hs w #[];have hlow:=qR hr.low;have hself:MQ P L (F fn tmps todo):=⟨fn,tmps,todo,rfl,hfn,hi⟩;have hkind:(match (F fn tmps todo).todo with|.call _ true _ _::_=>CallKind.wrapped|_=>CallKind.normal)=CallKind.normal:=by
  cases todo with
  | nil=>rfl
  | cons x k=>cases x <;> first|rfl|exact absurd (aH.1 hi).1 (by simp[jl])
 have hk2:((F fn tmps todo).kind==CallKind.early)=false:=rfl
 cases r with
 | ok a w' =>
  have ha:=hr.good a w' rfl;have e:∀ τ d,(∀ i,i<n->τ (d+i)=w.tape (w.drawn+i))->s.runT P (tp w τ d) #[]=(.ok a (tp w' τ (d+n)),es'):=fun τ d ht=>hr.nat τ d ht
  cases a <;> first|exact ha.elim|skip
  .rename_i v
   obtain⟨bQ,todo',h1,h2⟩:=xY (L:=L) fn tmps hi v;refine .go n _ cs w' (seen P fn es') ⟨fun B τ d ht=>?_,hr.drawn,hr.tape,hr.size,fM hlow⟩ (.inl ⟨fn,bQ,todo',h1,hfn,h2⟩) hcs;rw[hst];unfold stepG.apply;simp only[e τ d ht,if_true,hk2,jI,if_false];show GStep.after _ _=_;simp[GStep.after,G,F]
  .obtain⟨bQ,todo',h1,h2⟩:=xY (L:=L) fn tmps hi au;refine .go n _ cs w' (seen P fn es') ⟨fun B τ d ht=>?_,hr.drawn,hr.tape,hr.size,fM hlow⟩ (.inl ⟨fn,bQ,todo',h1,hfn,h2⟩) hcs;rw[hst];unfold stepG.apply;simp only[e τ d ht,if_true,hk2,jI,if_false];show GStep.after _ _=_;simp[GStep.after,G,F]
  .rename_i f args
   refine .go n (Frame.enter P f args .normal) (F fn tmps todo::cs) w' (seen P fn es') ⟨fun B τ d ht=>?_,hr.drawn,hr.tape,hr.size,fM hlow⟩ (.inl (Ri hP ha args)) (fun c hc=>?_)
   .rw[hst];unfold stepG.apply;simp only[e τ d ht,if_true,hk2,jI,if_false];show GStep.after _ _=_;simp[GStep.after,G,F];clear hst hself hkind hk2 hr hlow e
    cases todo with
    | nil=>rfl
    | cons x k=>cases x <;> first|rfl|exact absurd (aH.1 hi).1 (by simp[jl])
   .rcases rD.1 hc with rfl|hc
    .exact hself
    .exact hcs c hc
 | halt h w' =>
  have hc:=hr.calm h w' rfl;have e:∀ τ d,(∀ i,i<n->τ (d+i)=w.tape (w.drawn+i))->s.runT P (tp w τ d) #[]=(.halt h (tp w' τ (d+n)),es'):=fun τ d ht=>hr.nat τ d ht
  cases h <;> first|exact hc.elim|skip
  .rename_i v
   refine .panic n ((F fn tmps todo).raise [{v,recovered:=false}]) w' (seen P fn es') (fun B τ d ht=>?_) ⟨⟨_,rfl⟩,rfl,hfn⟩;rw[hst];unfold stepG.apply;simp only[e τ d ht,if_true,hk2,jI,if_false];show GStep.after _ _=_;simp[GStep.after,G,F]
  .rename_i u
   by_cases hu:∃ g,u=.initOrder g
   .obtain⟨g,rfl⟩:=hu;have hap:∀ B τ d,(∀ i,i<n->τ (d+i)=w.tape (w.drawn+i))->stepG P true (G (F fn tmps todo) (cs++B)) (tp w τ d)=early P (F fn tmps todo) (cs++B) none g (tp w' τ (d+n)):=fun B τ d ht=>by
     rw[hst];unfold stepG.apply;simp only[e τ d ht,if_true,hk2,jI,if_false];show GStep.after _ _=_;have hs0:seen P (F fn tmps todo).fn #[]=#[]:=rfl;rw[hs0]
     cases early P (F fn tmps todo) (cs++B) none g (tp w' τ (d+n)) <;> simp[GStep.after]
    rcases D9 hP (F fn tmps todo) g w' with⟨c,t,hc,h0⟩|h0
    .refine .go n (F fn tmps todo) cs {w' with heap:=w'.heap.setIfInBounds g (.cells c t)} #[] ⟨fun B τ d ht=>?_,hr.drawn,hr.tape,?_,by simp⟩ (.inl hself) hcs
     .rw[hap B τ d ht,h0]
     .have:=hr.size;simpa[rw] using this
    .refine .ended n fun B τ d ht=>?_
     rw[hap B τ d ht];obtain⟨o,ho⟩:=h0 (cs++B) τ (d+n);exact⟨_,_,_,ho⟩
   .refine .ended n fun B τ d ht=>?_
    rw[hst];unfold stepG.apply;simp only[e τ d ht,if_true,hk2,jI,if_false]
    cases u <;> first|exact⟨_,_,_,rfl⟩|exact absurd ⟨_,rfl⟩ hu
  .refine .ended n fun B τ d ht=>?_
   rw[hst];unfold stepG.apply;simp only[e τ d ht,if_true,hk2,jI,if_false];exact⟨_,_,_,rfl⟩
theorem Sz(hP:fO P L){fn:FuncId}{tmps:Array Value}{todo:List Item}{cs:List Frame}{w:World}{s s':Sem Next}{es0:Array Event}(hfn:(P.funcs[fn]?).isSome=true)(hi:Items P L todo)(hcs:∀ c∈cs,MQ P L c)(hs:ok P (fun _=>False) s')(hrun:∀ τ d,s.runT P (tp w τ d) #[]=s'.runT P (tp w τ d) es0)(hst:∀ B w,stepG P true (G (F fn tmps todo) (cs++B)) w=stepG.apply P true (F fn tmps todo) (cs++B) none s w):DX P L (F fn tmps todo) cs w:=by
 obtain⟨n,r,es',hr⟩:=dZ hs w es0;have hself:MQ P L (F fn tmps todo):=⟨fn,tmps,todo,rfl,hfn,hi⟩;have hk2:((F fn tmps todo).kind==CallKind.early)=false:=rfl
 cases r with
 | ok a w'=>exact(hr.good a w' rfl).elim
 | halt h w' =>
  have hc:=hr.calm h w' rfl;have e:∀ τ d,(∀ i,i<n->τ (d+i)=w.tape (w.drawn+i))->s.runT P (tp w τ d) #[]=(.halt h (tp w' τ (d+n)),es'):=fun τ d ht=>(hrun τ d).trans (hr.nat τ d ht)
  cases h <;> first|exact hc.elim|skip
  .rename_i v
   refine .panic n ((F fn tmps todo).raise [{v,recovered:=false}]) w' (seen P fn es') (fun B τ d ht=>?_) ⟨⟨_,rfl⟩,rfl,hfn⟩;rw[hst];unfold stepG.apply;simp only[e τ d ht,if_true,hk2,jI,if_false];show GStep.after _ _=_;simp[GStep.after,G,F]
  .rename_i u
   by_cases hu:∃ g,u=.initOrder g
   .obtain⟨g,rfl⟩:=hu;have hap:∀ B τ d,(∀ i,i<n->τ (d+i)=w.tape (w.drawn+i))->stepG P true (G (F fn tmps todo) (cs++B)) (tp w τ d)=early P (F fn tmps todo) (cs++B) none g (tp w' τ (d+n)):=fun B τ d ht=>by
     rw[hst];unfold stepG.apply;simp only[e τ d ht,if_true,hk2,jI,if_false];show GStep.after _ _=_;have hs0:seen P (F fn tmps todo).fn #[]=#[]:=rfl;rw[hs0]
     cases early P (F fn tmps todo) (cs++B) none g (tp w' τ (d+n)) <;> simp[GStep.after]
    rcases D9 hP (F fn tmps todo) g w' with⟨c,t,hc,h0⟩|h0
    .refine .go n (F fn tmps todo) cs {w' with heap:=w'.heap.setIfInBounds g (.cells c t)} #[] ⟨fun B τ d ht=>?_,hr.drawn,hr.tape,?_,by simp⟩ (.inl hself) hcs
     .rw[hap B τ d ht,h0]
     .have:=hr.size;simpa[rw] using this
    .refine .ended n fun B τ d ht=>?_
     rw[hap B τ d ht];obtain⟨o,ho⟩:=h0 (cs++B) τ (d+n);exact⟨_,_,_,ho⟩
   .refine .ended n fun B τ d ht=>?_
    rw[hst];unfold stepG.apply;simp only[e τ d ht,if_true,hk2,jI,if_false]
    cases u <;> first|exact⟨_,_,_,rfl⟩|exact absurd ⟨_,rfl⟩ hu
  .refine .ended n fun B τ d ht=>?_
   rw[hst];unfold stepG.apply;simp only[e τ d ht,if_true,hk2,jI,if_false];exact⟨_,_,_,rfl⟩
theorem Ya{ρ:Operand->Value}{o:Oper}{x:Operand}(ho:o.op=.panic x)(hx:ρ x=.nilIface)(w:World):∃ (s':Sem Next)(es0:Array Event),ok P (fun _=>False) s'/\∀ τ d,(execOp ρ o).runT P (tp w τ d) #[]=s'.runT P (tp w τ d) es0:=by
 have e0:execOp ρ o=(do pure (.value (<- Instr.panic .nilIface))):=by unfold execOp;rw[ho];dsimp only;rw[hx]
 have hz:∃ Z:SysRet->Sem Int,Instr.panicnil=Sem.sys .env Z/\∀ r,ok P T (Z r):=by
  refine⟨_,rfl,fun r=>?_⟩;refine d9 (C:=T) (fun x _=>?_) (trivial:ok P T (Sem.pure r))
  cases x <;> first|exact aA _|exact aC bO fun _=>ay _
 obtain⟨Z,h1,h2⟩:=hz;have e1:execOp ρ o=Sem.sys .env (fun r=>((Z r).bind fun n=>(if n==1 then goPanic .nilIface else runtimePanic .panicNil:Sem Value)).bind fun v=>.pure (.value v)):=by
  rw[e0];unfold Instr.panic;dsimp only
  rw[h1];rfl
 refine⟨((Z (.strings w.os.env)).bind fun n=>(if n==1 then goPanic .nilIface else runtimePanic .panicNil:Sem Value)).bind fun v=>.pure (.value v),#[⟨.output,true,false⟩],?_,fun τ d=>by rw[e1];rfl⟩;refine d9 (C:=fun _=>False) (fun _ h=>h.elim) (d9 (C:=T) (fun n _=>?_) (h2 _));exact bq (sV _) (bF _)
theorem WQ{fn:FuncId}{tmps:Array Value}{todo:List Item}{cs:List Frame}{w:World}(hfn:(P.funcs[fn]?).isSome=true)(hcs:∀ c∈cs,MQ P L c)(h:∀ B w,stepG P true (G (F fn tmps todo) (cs++B)) w=.go (G (R fn tmps todo) (cs++B)) w #[]):DX P L (F fn tmps todo) cs w :=.go 0 _ cs w #[] (yL h) (.inr ⟨fn,tmps,todo,rfl,hfn⟩) hcs
theorem eval_func(fr:Frame)(f:FuncId):fr.eval (.func f)=.func (.func f) #[] #[]:=rfl
theorem Vx(hP:fO P L){fn:FuncId}{tmps:Array Value}{todo:List Item}{cs:List Frame}{w:World}(hfn:(P.funcs[fn]?).isSome=true)(hi:Items P L todo)(hcs:∀ c∈cs,MQ P L c):DX P L (F fn tmps todo) cs w:=by
 cases todo with
 | nil=>exact WQ hfn hcs fun B w=>by simp[stepG,stepG.exec,F,R,G]
 | cons x k =>
  obtain⟨hx,hk⟩:=aH.1 hi
  cases x with
  | inBlock id=>exact moves hfn hcs hk fun B w=>by simp[stepG,stepG.exec,F,G]
  | inScope c=>exact moves hfn hcs hk fun B w=>by simp[stepG,stepG.exec,F,G]
  | inLoop c=>exact moves hfn hcs (todo':=.code c::.inLoop c::k) (aH.2 ⟨hx,aH.2 ⟨hx,hk⟩⟩) fun B w=>by simp[stepG,stepG.exec,F,G]
  | code c =>
   cases c with
   | skip=>exact moves hfn hcs hk fun B w=>by simp[stepG,stepG.exec,F,G]
   | label l=>exact moves hfn hcs hk fun B w=>by simp[stepG,stepG.exec,F,G]
   | ret=>exact WQ hfn hcs fun B w=>by simp[stepG,stepG.exec,F,R,G]
   | seq a b =>
    simp only[jl,gU,fE] at hx;exact moves hfn hcs (todo':=.code a::.code b::k) (aH.2 ⟨hx.1,aH.2 ⟨hx.2,hk⟩⟩) fun B w=>by simp[stepG,stepG.exec,F,G]
   | block id a=>exact moves hfn hcs (todo':=.code a::.inBlock id::k) (aH.2 ⟨hx,aH.2 ⟨rfl,hk⟩⟩) fun B w=>by simp[stepG,stepG.exec,F,G]
   | loop a=>exact moves hfn hcs (todo':=.code a::.inLoop a::k) (aH.2 ⟨hx,aH.2 ⟨hx,hk⟩⟩) fun B w=>by simp[stepG,stepG.exec,F,G]
   | scope a=>exact moves hfn hcs (todo':=.code a::.inScope a::k) (aH.2 ⟨hx,aH.2 ⟨hx,hk⟩⟩) fun B w=>by simp[stepG,stepG.exec,F,G]
   | cond c a b =>
    simp only[jl,gU,fE] at hx;by_cases hc:∃ t,(F fn tmps (.code (.cond c a b)::k)).eval c=.bool t
    .obtain⟨t,ht⟩:=hc;refine moves hfn hcs (todo':=.code (if t then a else b)::k) (aH.2 ⟨by cases t <;> simp[jl,hx],hk⟩) fun B w=>?_
     simp only[F] at ht;simp[stepG,stepG.exec,F,G,ht]
    .refine .ended 0 fun B τ d _=>?_
     simp only[stepG,stepG.exec,F,G];split
     .rename_i t ht;exact absurd ⟨t,ht⟩ hc
     .exact⟨_,_,_,rfl⟩
   | exit id =>
    cases he:exitTo id k with
    | some k'=>exact moves hfn hcs (jo he hk) fun B w=>by simp[stepG,stepG.exec,F,G,he]
    | none=>exact .ended 0 fun B τ d _=>⟨_,_,_,by simp[stepG,stepG.exec,F,G,he];exact⟨rfl,rfl,rfl⟩⟩
   | goto l =>
    cases he:gotoIn l k with
    | some k'=>exact moves hfn hcs (ji he hk) fun B w=>by simp[stepG,stepG.exec,F,G,he]
    | none=>exact .ended 0 fun B τ d _=>⟨_,_,_,by simp[stepG,stepG.exec,F,G,he];exact⟨rfl,rfl,rfl⟩⟩
   | region id ops draw =>
    cases draw with
    | false=>exact moves hfn hcs (todo':=.inRegion ops (List.range ops.size)::k) (aH.2 ⟨hx,hk⟩) fun B w=>by simp[stepG,stepG.exec,F,G]
    | true =>
     refine .go 1 (F fn tmps (.inRegion ops (Region.schedule (P.follows .mixedOrders) ops (w.tape w.drawn (.order fn id)))::k)) cs {w with drawn:=w.drawn+1} #[] ⟨fun B τ d ht=>?_,rfl,rfl,aY _,by simp⟩ (.inl ⟨fn,tmps,_,rfl,hfn,aH.2 ⟨hx,hk⟩⟩) hcs;have h1:τ d (.order fn id)=w.tape w.drawn (.order fn id):=by have:=ht 0 (by omega);simp only[R4] at this;rw[this]
     simp[stepG,stepG.exec,F,G,choose,Sem.run,Question.forced,Question.cut,tp,h1]
   | rangeFunc a b c d=>exact absurd hx (by simp[jl,gU])
   | refuse m=>exact .ended 0 fun B τ d _=>⟨_,_,_,by simp[stepG,stepG.exec,F,G];exact⟨rfl,rfl,rfl⟩⟩
  | inRegion ops l =>
   cases l with
   | nil=>exact moves hfn hcs hk fun B w=>by simp[stepG,stepG.exec,F,G]
   | cons i l =>
    by_cases hw:((ops[i]?).map (Region.wanted · (yielded ops tmps))).getD false=true
    .cases ho:ops[i]? with
     | none=>rw[ho] at hw;cases hw
     | some o =>
      have hok0:(bT P L o.op||Wy o.op)=true:=by
       simp only[jl,YF] at hx;obtain⟨hlt,he⟩:=fT.1 ho;have:=hx i hlt;rw[he] at this;exact this
      have hw2:Region.wanted o (yielded ops tmps)=true:=by rw[ho] at hw;simpa using hw
      rw[Yb] at hok0;rcases hok0 with hok|ZY
      rotate_left
      .cases hop:o.op <;> rw[hop] at ZY <;> first|(cases ZY;done)|skip
       rename_i x
       have hst:∀ B w,stepG P true (G (F fn tmps (.inRegion ops (i::l)::k)) (cs++B)) w=stepG.apply P true (F fn tmps (.inRegion ops (i::l)::k)) (cs++B) none (execOp (F fn tmps (.inRegion ops (i::l)::k)).eval o) w:=fun B w=>by
        simp[stepG,stepG.exec,stepG.oper,Frame.oper?,F,G,hw2,ho]
       by_cases hv:(F fn tmps (.inRegion ops (i::l)::k)).eval x=.nilIface
       .obtain⟨s',es0,h1,h2⟩:=Ya (P:=P) hop hv w;exact Sz hP hfn hi hcs h1 h2 hst
       .refine Dz hP hfn hi hcs ?_ hst;unfold execOp;rw[hop];dsimp only
        generalize (F fn tmps (.inRegion ops (i::l)::k)).eval x=v at hv;refine lg ?_;unfold Instr.panic
        cases v <;> first|exact absurd rfl hv|exact sV _|exact aA _
      refine Dz hP hfn hi hcs (uy (hE:=hP.ext) (ρ:=(F fn tmps (.inRegion ops (i::l)::k)).eval) (o:=o) (eval_func _) hok) fun B w=>?_
      simp[stepG,stepG.exec,stepG.oper,Frame.oper?,F,G,hw2,ho]
    .have hw':((ops[i]?).map (Region.wanted · (yielded ops tmps))).getD false=false:=by simpa using hw
     obtain⟨bQ,todo',h1,h2⟩:=xY (L:=L) fn tmps hi au;refine .go 0 _ cs w #[] (yL fun B w=>?_) (.inl ⟨fn,bQ,todo',rfl,hfn,h2⟩) hcs;rw[<-h1];simp[stepG,stepG.exec,F,G,hw']
  | inRangeFunc l=>exact absurd hx (by simp[jl])
  | endRangeFunc l=>exact absurd hx (by simp[jl])
  | beginRound=>exact absurd hx (by simp[jl])
  | call d b r s=>exact absurd hx (by simp[jl])
  | extern r a=>exact absurd hx (by simp[jl])
