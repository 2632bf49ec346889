/- J08 -/
import Derived.Test.YtdbgldieilgnmaaGreatDoorJ07
import Derived.Conc.LoneSelect
set_option linter.unusedVariables false
set_option linter.unusedSimpArgs false
set_option maxHeartbeats 8000000
set_option maxRecDepth 100000
namespace Go.Proofs.YtdbgldieilgnmaaGreatDoor
section
open Go.Conc
namespace Sr
section
variable {P:Program}{gs:Array Goroutine}{w ω:World}{sl:Option (Nat×Nat)}{i j k:Nat}{g ξ gj:Goroutine}{es:Array Event}{c cap s r:Nat}{buf:Array Value}{tm closed:Bool}{v z zj:Value}
 {blocking:Bool} {shape shj:CommShape} {cs cases:Array CommCase}
theorem Eb(hi:gs[i]? = some g)(h:stepG P (i==0) g w=.comm ξ cases blocking shape ω es)(hk:cases[k]? = some (scase c v z))(ho:∀ (m:Nat)(c':CommCase),m≠k->cases[m]? = some c'->NoWays ω (gs.setIfInBounds i ph) c')(hc:ω.heap[c]? = some (.chan cap buf false s r tm))(hij:j≠i)(hj:gs[j]? = some (parked gj #[rcase c zj] shj))(hp:partners (gs.setIfInBounds i ph) c false=[(j,0)]):runT P (crowd gs w sl) i=(.next (crowd ((gs.setIfInBounds j (gj.finishComm P #[rcase c zj] shj 0 v true)).setIfInBounds i (ξ.finishComm P cases shape k undef false)) (ω.setChan c cap buf false (s+1) (r+1) tm) sl),
   MemOp.ofEvents i g.frame.fn g.frame.place es++#[{g:=i,fn:=ξ.frame.fn,pos:=ξ.frame.place,act:=.send c s},{g:=j,fn:=gj.frame.fn,pos:=gj.frame.place,act:=.recv c r cap},
    {g:=i,fn:=ξ.frame.fn,pos:=ξ.frame.place,act:=.sendDone c s},{g:=j,fn:=gj.frame.fn,pos:=gj.frame.place,act:=.recvDone c r}]):=by
 have hw:ways ω (gs.setIfInBounds i ph) (scase c v z)=[.partner j 0]:=by simp[ways,scase,hc,hp]
 have hj':=stand_get (i:=i) hij hj;have hfp:=finishPartner_at P (gs.setIfInBounds i ph) hj' (cs:=#[rcase c zj]) (sh:=shj) rfl 0 v;have hgd:(gs.setIfInBounds i ph).getD j default=parked gj #[rcase c zj] shj:=by rw[Az,hj'];rfl
 rw[runT_crowd_comm hi h];unfold communicate;simp only[ready_one hk (by rw[hw];simp) ho,hw];rw[if_neg]
 .simp[choose,Sem.run,Question.forced,bind,Sem.bind,pure,scase,crowd,hc,hfp,hgd,set_stand2,finishComm_parked,rcase,parked,World.setChan];rfl
 .rw[qcg];exact any_ill (made_of_one hk (made_send v z hc) ho)
theorem CF(hi:gs[i]? = some g)(h:stepG P (i==0) g w=.comm ξ #[rcase c z] blocking shape ω es)(hc:ω.heap[c]? = some (.chan cap #[] closed s r tm))(hij:j≠i)(hj:gs[j]? = some (parked gj cs shj))(hk:cs[k]? = some (scase c v zj))(hp:partners (gs.setIfInBounds i ph) c true=[(j,k)]):runT P (crowd gs w sl) i=(.next (crowd ((gs.setIfInBounds j (gj.finishComm P cs shj k undef false)).setIfInBounds i (ξ.finishComm P #[rcase c z] shape 0 v true)) (ω.setChan c cap #[] closed (s+1) (r+1) tm) sl),
   MemOp.ofEvents i g.frame.fn g.frame.place es++#[{g:=j,fn:=gj.frame.fn,pos:=gj.frame.place,act:=.send c s},{g:=i,fn:=ξ.frame.fn,pos:=ξ.frame.place,act:=.recv c r cap},
    {g:=j,fn:=gj.frame.fn,pos:=gj.frame.place,act:=.sendDone c s},{g:=i,fn:=ξ.frame.fn,pos:=ξ.frame.place,act:=.recvDone c r}]):=by
 rw[runT_crowd_comm hi h];have hj':=stand_get (i:=i) hij hj;have hfp:=finishPartner_at P (gs.setIfInBounds i ph) hj' (cs:=cs) (sh:=shj) rfl k undef;have hgd:(gs.setIfInBounds i ph).getD j default=parked gj cs shj:=by rw[Az,hj'];rfl
 have hov:offeredValue (gs.setIfInBounds i ph) j k=v:=by simp[offeredValue,hj',parked,hk,scase]
 simp[communicate,ways,rcase,hc,hp,choose,Sem.run,Question.forced,bind,Sem.bind,pure,World.setChan,crowd,hfp,hgd,hov,set_stand2,finishComm_parked,parked,hk,scase];rfl
end
section
variable {g:Goroutine}{w:World}{cs:Array CommCase}{sh:CommShape}{c k:Nat}{v z:Value}
theorem Kq(hk:cs[k]? = some (scase c v z))(hu:∀ (m:Nat)(cc:CommCase),m≠k->cs[m]? = some cc->cc.chan≠.chan (some c)):offersAt (parked g cs sh) c true=[k]:=by
 simp only[offersAt,parked];have hz:∀ m:Nat,cs.zipIdx.toList[m]? = (cs[m]?).map fun x=>(x,m):=by intro m;simp
 have:=filter_map_one (id:CommCase×Nat->CommCase×Nat) (fun (x:CommCase×Nat)=>x.1.send.isSome==true&&(match x.1.chan with|.chan (some r')=>r'==c|_=>false)) cs.zipIdx.toList k (scase c v z,k) (by rw[hz,hk];rfl) (by simp[scase])
  (fun m x hm hx=>by
   rw[hz] at hx
   cases e:cs[m]? with
   | none=>rw[e] at hx;cases hx
   | some y =>
    rw[e] at hx;simp only[MK,Ba] at hx;subst hx;have hne:=hu m y hm e;simp only[id,Bool.and_eq_false_iff]
    right
    split
    .rename_i r' e'
     simp only[beq_eq_false_iff_ne];intro er;exact hne (er ▸ e')
    .rfl)
 simp only[List.map_id_fun,id] at this;exact congrArg (List.map fun x:CommCase×Nat=>x.2) this
theorem ND(h:∀ cc∈cs,∀ c',cc.chan=.chan (some c')->∃ cap buf s r tm,w.heap[c']? = some (.chan cap buf false s r tm)):(parked g cs sh).again w=parked g cs sh:=by
 simp[Goroutine.again,parked];intro x hx;have:=h cs[x] (Array.getElem_mem hx);split
 .rename_i c' e
  obtain⟨cap,buf,s,r,tm,h2⟩:=this c' e;simp[h2]
 .rfl
end
end Sr
end
section
open Go.Conc
open Cc (Ai y9 heard_new lI wU rR Shut Comm Uv abB)
namespace Sr
structure Mid(X Y:Loc->Bool->Prop)(k B:Nat)(t:Trace):Prop where
 clean:∀ said,¬ Race said t
 known0:∀ i a,touchAt t i=some a->a.loc.isMemory=true->Knows t 0 i\/∃ op,t[i]? = some op/\op.g=k/\Y a.loc a.write
 Cm:∀ i a,touchAt t i=some a->a.loc.isMemory=true->Knows t k i\/∃ op,t[i]? = some op/\op.g=0/\X a.loc a.write
 over:∀ i op,t[i]? = some op->op.g≠0->op.g≠k->t.counts i->∃ j,t.g? j=some 0/\HappensBefore t i j
 hears:Deaf t 0=0
 zw:Deaf t k=0
 seen:∀ op∈t,op.act.low B
section
variable {X Y X' Y':Loc->Bool->Prop}{k B:Nat}{t u:Trace}
theorem Mid.mono{B':Nat}(h:Mid X Y k B t)(hB:B<=B')(hX:∀ l x,X l x->X' l x)(hY:∀ l x,Y l x->Y' l x):Mid X' Y' k B' t :=⟨h.clean,fun i a ha hm=>(h.known0 i a ha hm).imp id fun⟨op,h1,h2,h3⟩=>⟨op,h1,h2,hY _ _ h3⟩,fun i a ha hm=>(h.Cm i a ha hm).imp id fun⟨op,h1,h2,h3⟩=>⟨op,h1,h2,hX _ _ h3⟩,h.over,h.hears,h.zw,fun op hop=>MemAct.low_mono hB (h.seen op hop)⟩
theorem Mid.app0(h:Mid X Y k B t)(hXY:∀ l x y,X l x->Y l y->x=false/\y=false)(hk0:k≠0)(hu:∀ op∈u,op.g=0)(hw:∀ op∈u,∀ b,op.act.touch? = some b->X b.loc b.write)(hd:Deaf (t++u) 0=Deaf t 0)(hl:∀ op∈u,op.act.low B):Mid X Y k B (t++u):=by
 refine⟨fun said=>noRace_append (h.clean said) hu fun i a ha op hop b hb hc=>?_,fun i a ha hm=>?_,fun i a ha hm=>?_,wU h.over fun op hop=>.inl (hu op hop),hd.trans h.hears,(Deaf_other t (by omega) u hu).trans h.zw,seen_app h.seen hl⟩
 .rcases h.known0 i a ha hc.2.1 with hk|⟨_,_,_,ha2⟩
  .exact hk
  .have h2:=hXY _ _ _ (hw op hop b hb) (hc.1 ▸ ha2);rcases hc.2.2.1 with x|x
   .rw[h2.2] at x;cases x
   .rw[h2.1] at x;cases x
 .obtain⟨x,hx,hxa⟩:=touch_of ha;rcases getElem?_append_cases hx with⟨_,hx'⟩|⟨_,hxu⟩
  .rcases h.known0 i a (by rw[touchAt_of hx'];exact hxa) hm with k1|⟨op,k1,k2⟩
   .exact .inl (k1.app u)
   .exact .inr ⟨op,rR k1,k2⟩
  .have:=knows_own hx;rw[hu x hxu] at this;exact .inl this
 .obtain⟨x,hx,hxa⟩:=touch_of ha;rcases getElem?_append_cases hx with⟨_,hx'⟩|⟨_,hxu⟩
  .rcases h.Cm i a (by rw[touchAt_of hx'];exact hxa) hm with k1|⟨op,k1,k2⟩
   .exact .inl (k1.app u)
   .exact .inr ⟨op,rR k1,k2⟩
  .exact .inr ⟨x,hx,hu x hxu,hw x hxu a hxa⟩
theorem Mid.adb(h:Mid X Y k B t)(hXY:∀ l x y,X l x->Y l y->x=false/\y=false)(hk0:k≠0)(hu:∀ op∈u,op.g=k)(hw:∀ op∈u,∀ b,op.act.touch? = some b->Y b.loc b.write)(hd:Deaf (t++u) k=Deaf t k)(hl:∀ op∈u,op.act.low B):Mid X Y k B (t++u):=by
 refine⟨fun said=>noRace_append (h.clean said) hu fun i a ha op hop b hb hc=>?_,fun i a ha hm=>?_,fun i a ha hm=>?_,wU h.over fun op hop=>.inr (.inl (hu op hop)),(Deaf_other t (by omega) u hu).trans h.hears,hd.trans h.zw,seen_app h.seen hl⟩
 .rcases h.Cm i a ha hc.2.1 with hk|⟨_,_,_,ha2⟩
  .exact hk
  .have h2:=hXY _ _ _ (hc.1 ▸ ha2) (hw op hop b hb);rcases hc.2.2.1 with x|x
   .rw[h2.1] at x;cases x
   .rw[h2.2] at x;cases x
 .obtain⟨x,hx,hxa⟩:=touch_of ha;rcases getElem?_append_cases hx with⟨_,hx'⟩|⟨_,hxu⟩
  .rcases h.known0 i a (by rw[touchAt_of hx'];exact hxa) hm with k1|⟨op,k1,k2⟩
   .exact .inl (k1.app u)
   .exact .inr ⟨op,rR k1,k2⟩
  .exact .inr ⟨x,hx,hu x hxu,hw x hxu a hxa⟩
 .obtain⟨x,hx,hxa⟩:=touch_of ha;rcases getElem?_append_cases hx with⟨_,hx'⟩|⟨_,hxu⟩
  .rcases h.Cm i a (by rw[touchAt_of hx'];exact hxa) hm with k1|⟨op,k1,k2⟩
   .exact .inl (k1.app u)
   .exact .inr ⟨op,rR k1,k2⟩
  .have:=knows_own hx;rw[hu x hxu] at this;exact .inl this
theorem Mid.appMute{g:Nat}(h:Mid X Y k B t)(hg:g≠0)(hgk:g≠k)(hu:∀ op∈u,op.g=g)(hn:∀ op∈u,op.act.touch? = none)(hl:∀ op∈u,op.act.low B):Mid X Y k B (t++u):=by
 refine⟨fun said=>noRace_append (h.clean said) hu fun i a _ op hop b hb _=>(by rw[hn op hop] at hb;cases hb),fun i a ha hm=>?_,fun i a ha hm=>?_,wU h.over fun op hop=>.inr (.inr (hn op hop)),(Deaf_other t hg u hu).trans h.hears,(Deaf_other t hgk u hu).trans h.zw,seen_app h.seen hl⟩
 all_goals
  obtain⟨x,hx,hxa⟩:=touch_of ha;rcases getElem?_append_cases hx with⟨_,hx'⟩|⟨_,hxu⟩
 .rcases h.known0 i a (by rw[touchAt_of hx'];exact hxa) hm with k1|⟨op,k1,k2⟩
  .exact .inl (k1.app u)
  .exact .inr ⟨op,rR k1,k2⟩
 .rw[hn x hxu] at hxa;cases hxa
 .rcases h.Cm i a (by rw[touchAt_of hx'];exact hxa) hm with k1|⟨op,k1,k2⟩
  .exact .inl (k1.app u)
  .exact .inr ⟨op,rR k1,k2⟩
 .rw[hn x hxu] at hxa;cases hxa
theorem Mid.start{x y:MemOp}(h:Past Ai B t)(hk0:k≠0)(hk:Deaf t k=0)(hx:x.g=0)(hxa:x.act=.go k)(hy:y.g=k)(hya:y.act=.start):Mid X Y k B (t++#[x]++#[y]):=by
 have hxt:x.act.touch? = none:=by rw[hxa];rfl
 have hyt:y.act.touch? = none:=by rw[hya];rfl
 have hs1:(t++#[x]).size=t.size+1:=by simp
 have ex:(t++#[x]++#[y])[t.size]? = some x:=by rw[getElem?_append_old (by simp)];exact lI _ _
 have ey:(t++#[x]++#[y])[t.size+1]? = some y:=by rw[<-hs1];exact lI _ _
 have d1:Deaf (t++#[x]) 0=Deaf t 0:=by rw[Deaf_push];simp[deafStep,hxa]
 have d2:Deaf (t++#[x]) k=0:=by rw[Deaf_other t (g':=0) (by omega) #[x] (by simp[hx])];exact hk
 have hp1:Past Ai B (t++#[x]):=h.app0 (by simp[hx]) (by intro op hop b hb;simp at hop;subst hop;rw[hxt] at hb;cases hb) d1 (by intro op hop;simp at hop;subst hop;rw[hxa];trivial);have hp2:Past Ai B (t++#[x]++#[y]):=hp1.appMute (g:=k) hk0 (by simp[hy]) (by intro op hop;simp at hop;subst hop;exact hyt) (by intro op hop;simp at hop;subst hop;rw[hya];trivial);have hhx:(t++#[x]++#[y]).heard t.size:=y9 (heard_new (by rw[hx];exact h.hears));have hhy:(t++#[x]++#[y]).heard (t.size+1):=by rw[<-hs1];exact heard_new (by rw[hy];exact d2)
 have afK:HappensBefore (t++#[x]++#[y]) t.size (t.size+1):=.single (.inr ⟨.spawn (child:=k) (by rw[act?_of ex,hxa]) (by rw[act?_of ey,hya]) (by rw[g?_of ey,hy]),hhx,hhy⟩);have abM:∀ i a,touchAt (t++#[x]++#[y]) i=some a->a.loc.isMemory=true->Knows (t++#[x]++#[y]) 0 i/\Knows (t++#[x]++#[y]) k i:=by
  intro i a ha hm;obtain⟨z,hz,hza⟩:=touch_of ha;have hzt:t[i]? = some z:=by
   rcases getElem?_append_cases hz with⟨_,hz'⟩|⟨_,hm'⟩
   .rcases getElem?_append_cases hz' with⟨_,agx⟩|⟨_,hm'⟩
    .exact agx
    .simp at hm';subst hm';rw[hxt] at hza;cases hza
   .simp at hm';subst hm';rw[hyt] at hza;cases hza
  rcases h.known i a (by rw[touchAt_of hzt];exact hza) hm with hk|⟨hf,_⟩
  .refine⟨(hk.app _).app _,t.size+1,y,ey,hy,.inr ?_⟩;exact(hb_app #[y] (hk.hb_new (u:=#[x]) (aY _) (by simp) hx)).trans afK
  .exact hf.elim
 refine⟨hp2.clean,fun i a ha hm=>.inl (abM i a ha hm).1,fun i a ha hm=>.inl (abM i a ha hm).2,fun i op hi h0 hk hc=>hp2.over i op.g (g?_of hi) h0 hc,hp2.hears,?_,hp2.seen⟩;rw[Deaf_push,d2];simp[deafStep,hya]
theorem Mid.past{c pc:Nat}{y:MemOp}(h:Mid X Y k B t)(hXY:∀ l x y,X l x->Y l y->x=false/\y=false)(hk0:k≠0)(hs:Shut k c pc t)(hy:y.g=0)(hya:y.act=.recvClosed c)(hc:c<B):Past Ai B (t++#[y]):=by
 have hyt:y.act.touch? = none:=by rw[hya];rfl
 have ey:(t++#[y])[t.size]? = some y:=lI _ _;have h1:Mid X Y k B (t++#[y]):=h.app0 hXY hk0 (by simp[hy]) (by intro op hop b hb;simp at hop;subst hop;rw[hyt] at hb;cases hb) (by rw[Deaf_push];simp[deafStep,hya]) (by intro op hop;simp at hop;subst hop;rw[hya];exact hc);have hs1:Shut k c pc (t++#[y]):=hs.app (by intro op hop hg;simp at hop;subst hop;exact hyt);obtain⟨op,e1,e2,e3⟩:=hs1.close;have abW:HappensBefore (t++#[y]) pc t.size:=.single (.inr ⟨.closed (c:=c) (by rw[act?_of e1,e3]) (by rw[act?_of ey,hya]),hs1.heard,heard_new (by rw[hy];exact h.hears)⟩);have hk:∀ i z,(t++#[y])[i]? = some z->z.g=k->z.act.touch?≠none->HappensBefore (t++#[y]) i t.size:=by
  intro i z hz hg ht;have hle:=hs1.last i z hz hg ht;rcases qb7 i pc with hlt|hge
  .exact(hb_po hlt hz e1 (by rw[hg,e2])).trans abW
  .obtain rfl:i=pc:=by omega
   exact abW
 refine⟨h1.clean,fun i a ha hm=>?_,fun i g hg h0 hc=>?_,h1.hears,h1.seen⟩
 .rcases h1.known0 i a ha hm with h2|⟨z,hz,hg,_⟩
  .exact .inl h2
  .obtain⟨z',hz',hza⟩:=touch_of ha;rw[hz] at hz';cases hz'
   exact .inl ⟨t.size,y,ey,hy,.inr (hk i z hz hg (by rw[hza];simp))⟩
 .obtain⟨z,hz,hzg⟩:=zA.1 hg;by_cases hgk:g=k
  .obtain⟨x,hx,_⟩:=hc;obtain⟨z',hz',hza⟩:=touch_of hx;rw[hz] at hz';cases hz'
   exact⟨t.size,by rw[g?_of ey,hy],hk i z hz (by rw[hzg,hgk]) (by rw[hza];simp)⟩
  .exact h1.over i z hz (by rw[hzg];exact h0) (by rw[hzg];exact hgk) hc
end
end Sr
end
section
open Go.Conc
open Go.ConcN (sumTo upd sumTo_upd upd_ne upd_same)
namespace Cc
section
variable {P:Program}{k Lw B c:Nat}{t:Trace}
theorem KS{u:Trace}(hu:∀ op∈u,Comm k c op)(g:Nat):Deaf (t++u) g=Deaf t g:=by
 obtain⟨l⟩:=u;exact DZ (fun op hop=>hu op (by simpa using hop)) g
theorem jV.comm{gs gs':Array Goroutine}{q:Nat->Nat}(h:jV P t gs k q){i:Nat}(hi:i=0\/i=k)(hs:gs'.size=gs.size)(hg:∀ j,0<j->j<k->gs'[j]? = gs[j]?){fn:FuncId}{pos:String}{es:Array Event}{u:Trace}(hu:∀ op∈u,Comm k c op):jV P (t++(MemOp.ofEvents i fn pos es++u)) gs' k q:=by
 refine h.keep hs hg fun j h0 hk=>?_
 rw[<-qbF,KS hu];exact Deaf_other t (g':=i) (by omega) _ (fun op hop=>by obtain⟨e,_,rfl⟩:=Go.Conc.mem_ofEvents hop;rfl)
end
section
variable (P:Program)(c Lw:Nat)(S:World->Prop)(z:Value)(Fin:Goroutine->World->Prop)(k:Nat)
def WR(m:Machine)(t:Trace):Prop :=∃ (gs:Array Goroutine)(a:Goroutine)(w:World)(sl:Option (Nat×Nat))(q:Nat->Nat)(B:Nat),m=crowd gs w sl/\gs[0]? = some a/\Fin a w/\Leavers P t gs q/\Past Ai B t/\w.heap.size<=B
end
section
variable {P:Program}{c Lw:Nat}{S:World->Prop}{z:Value}{Fin:Goroutine->World->Prop}{k:Nat}
variable {gs:Array Goroutine}{a b:Goroutine}{w:World}{sl:Option (Nat×Nat)}{t:Trace}{q:Nat->Nat}{B:Nat}{buf:Array Value}{vs:List Value}{ra rb s r:Nat}{tm:Bool}
theorem adA{w:World}{o:Obj}(hc:w.heap[c]? = some o)(hB:w.heap.size<=B):c<B:=CW (fT.1 hc).1 hB
theorem pE{gs:Array Goroutine}{k:Nat}{x:Goroutine}(hs:gs.size=k+1):(gs.setIfInBounds 0 x)[0]? = some x:=by
 rw[Sn (by omega)]
theorem pF{gs:Array Goroutine}{k:Nat}{x:Goroutine}(hs:gs.size=k+1):(gs.setIfInBounds k x)[k]? = some x:=by
 rw[Sn (by omega)]
theorem Qs{i:Nat}{g:Goroutine}(fH:jV P t gs k q)(h0:0<i)(hk:i<k)(hi:gs[i]? = some g)(hr:g.status=.running):∃ m g' es,(∀ e∈es,Event.mute e=true)/\sumTo k (upd q i m)+1=sumTo k q/\(∀ w sl,runT P (crowd gs w sl) i=(.next (crowd ((gs.map (woken P g g' w)).setIfInBounds i g') w sl),MemOp.ofEvents i g.frame.fn g.frame.place es))/\(∀ w,jV P (t++MemOp.ofEvents i g.frame.fn g.frame.place es) ((gs.map (woken P g g' w)).setIfInBounds i g') k (upd q i m)):=by
 have hq:=fH.old i g h0 hk hi;have hi0:(i==0)=false:=by simp;omega
 cases hqi:q i with
 | zero=>rw[hqi] at hq;rw[hq.1] at hr;cases hr
 | succ m =>
  rw[hqi] at hq;rcases hq with⟨hf,_⟩|⟨_,g',es,hm,hstp,hq'⟩
  .rw[hf] at hr;cases hr
  refine⟨m,g',es,hm,?_,fun w sl=>runT_crowd_go hi (by rw[hi0];exact hstp w),fun w=>fH.slip h0 hk hq'⟩;have hs:sumTo k (upd q i m)+(m+1)=sumTo k q+m:=by
   have:=sumTo_upd q m id hk;simpa[hqi] using this
  omega
theorem SY{c pc:Nat}{u:Trace}(sh:Shut k c pc t)(hu:∀ op∈u,op.act.touch? = none):Shut k c pc (t++u):=sh.app fun op hop _=>hu op hop
theorem woken_quits{nb:Nat}{x y:Goroutine}{w':World}(hq:QuitsIn P nb b):woken P x y w' b=b:=woken_quitsD (QuitsD.of_quitsIn hq)
end
end Cc
end
section
open Go.Conc
open Go.ConcN (sumTo upd sumTo_upd upd_ne upd_same)
open Cc (tp Ai jV Shut Comm)
namespace Sr
structure Rel(S X:Nat->Prop)(w ω:World):Prop where
 own:∀ b,X b->ω.heap[b]? = w.heap[b]?
 sh:∀ b,S b->ω.heap[b]? = w.heap[b]?
 size:w.heap.size<=ω.heap.size
 os:ω.os=w.os
 out:ω.output=w.output
 tape:ω.tape=w.tape
theorem Rel.refl(S X:Nat->Prop)(w:World):Rel S X w w:=⟨fun _ _=>rfl,fun _ _=>rfl,aY _,rfl,rfl,rfl⟩
theorem Rel.trans{S X:Nat->Prop}{a b c:World}(h:Rel S X a b)(k:Rel S X b c):Rel S X a c:=⟨fun x hx=>(k.own x hx).trans (h.own x hx),fun x hx=>(k.sh x hx).trans (h.sh x hx),tT h.size k.size,k.os.trans h.os,k.out.trans h.out,k.tape.trans h.tape⟩
theorem Rel.at(S X:Nat->Prop)(w:World)(d:Nat):Rel S X w (w.at d):=⟨fun _ _=>rfl,fun _ _=>rfl,aY _,rfl,rfl,rfl⟩
def EvX(X S:Nat->Prop)(n:Nat)(e:Event):Prop:=Ev (fun _ b=>X b) n e\/(Ev (fun _ b=>S b) n e/\e.write=false)
def Qt(S:Nat->Prop)(e:Event):Prop:=∀ b,blk e.loc=some b->S b->e.write=false
def QS(S:Nat->Prop)(w w':World)(es:Array Event):Prop:=(∀ e∈es,Qt S e)/\∀ b,S b->w'.heap[b]? = w.heap[b]?
theorem QS.nil{S:Nat->Prop}{w:World}{τ:Nat->Question->Nat}{d:Nat}:QS S w (tp w τ d) #[]:=⟨by simp,fun _ _=>rfl⟩
theorem acA{R:Nat->Nat->Prop}{n b:Nat}{e:Event}(h:Ev R n e)(hb:blk e.loc=some b):∃ a,R a b:=by
 rcases h with⟨a,x,h1,h2,_⟩|⟨r,x,h1,h2,_⟩|⟨m,h1,_⟩
 .rw[h1] at hb;cases hb;exact⟨x,h2⟩
 .rw[h1] at hb;cases hb;exact⟨x,h2⟩
 .rw[h1] at hb;cases hb
structure iw(S X:Nat->Prop)(w w':World)(es:Array Event)(X':Nat->Prop):Prop where
 size:w.heap.size<=w'.heap.size
 os:w'.os=w.os
 out:w'.output=w.output
 tape:w'.tape=w.tape
 frame:∀ b,b<w.heap.size->¬ X b->w'.heap[b]? = w.heap[b]?
 sub:∀ b,X b->X' b
 new:∀ b,X' b->X b\/(w.heap.size<=b/\b<w'.heap.size)
 ev:∀ e∈es,EvX X' S w'.heap.size e
def MG(P:Program)(S:Nat->Prop)(Stop:(Nat->Prop)->Goroutine->World->Prop):Nat->(Nat->Prop)->Goroutine->World->Prop
 | 0,X,g,w=>∀ ω,Rel S X w ω->Stop X g ω
 | n+1,X,g,w=>(∀ ω,Rel S X w ω->Stop X g ω)\/(g.status=.running/\∀ ω,Rel S X w ω->∃ g' w' es X',stepG P true g ω=.go g' w' es/\iw S X ω w' es X'/\MG P S Stop n X' g' w')
theorem MG.rely{P:Program}{S:Nat->Prop}{Stop:(Nat->Prop)->Goroutine->World->Prop}:∀ {n:Nat}{X:Nat->Prop}{g:Goroutine}{w ω:World},MG P S Stop n X g w->Rel S X w ω->MG P S Stop n X g ω
 | 0,X,g,w,ω,h,hr=>fun ψ Ξ=>h ψ (hr.trans Ξ)
 | n+1,X,g,w,ω,h,hr=>h.imp (fun h ψ Ξ=>h ψ (hr.trans Ξ)) fun⟨h1,h⟩=>⟨h1,fun ψ Ξ=>h ψ (hr.trans Ξ)⟩
theorem MG.cases{P:Program}{S:Nat->Prop}{Stop:(Nat->Prop)->Goroutine->World->Prop}{n:Nat}{X:Nat->Prop}{g:Goroutine}{w:World}(h:MG P S Stop n X g w):(∀ ω,Rel S X w ω->Stop X g ω)\/∃ n',n=n'+1/\g.status=.running/\∀ ω,Rel S X w ω->∃ g' w' es X',stepG P true g ω=.go g' w' es/\iw S X ω w' es X'/\MG P S Stop n' X' g' w':=by
 cases n with
 | zero=>exact .inl h
 | succ n=>exact h.imp id fun h=>⟨n,rfl,h⟩
def AtRecv(P:Program)(S:Nat->Prop)(c:Nat)(z:Value)(X:Nat->Prop)(g:Goroutine)(w:World)(N:Prop):Prop :=g.status=.running/\(∃ es,stepG P true g w=.comm (core g) #[rcase c z] true (.recv true) w es/\∀ e∈es,EvX X S w.heap.size e)/\N
theorem MG.running{P:Program}{S:Nat->Prop}{Stop:(Nat->Prop)->Goroutine->World->Prop}(hS:∀ X g w,Stop X g w->g.status=.running){n:Nat}{X:Nat->Prop}{g:Goroutine}{w:World}(h:MG P S Stop n X g w):g.status=.running:=by
 rcases h.cases with h|⟨_,_,h,_⟩
 .exact hS _ _ _ (h w (Rel.refl S X w))
 .exact h
inductive GW(P:Program)(L:FuncId->Bool)(S:Nat->Prop)(Φ:Frame->List Frame->World->Prop):Frame->List Frame->World->Prop
 | stop {fr:Frame} {cs:List Frame} {w:World} (h:∀ τ d,Φ fr cs (tp w τ d)):GW P L S Φ fr cs w
 | step {fr:Frame} {cs:List Frame} {w:World} (hn:dS P L false fr) (hne:cs=[]->fr.mode=.run\/fr.defers≠[]) (fr':(Nat->Question->Nat)->Nat->Frame) (cs':(Nat->Question->Nat)->Nat->List Frame) (w':(Nat->Question->Nat)->Nat->World) (es:(Nat->Question->Nat)->Nat->Array Event)
   (h:∀ τ d,stepG P false (G fr cs) (tp w τ d)=.go (G (fr' τ d) (cs' τ d)) (w' τ d) (es τ d)) (hq:∀ τ d,QS S w (w' τ d) (es τ d)) (ht:∀ τ d,GW P L S Φ (fr' τ d) (cs' τ d) (w' τ d)):GW P L S Φ fr cs w
theorem GW.step'{P:Program}{L:FuncId->Bool}{S:Nat->Prop}{Φ:Frame->List Frame->World->Prop}{fr:Frame}{cs:List Frame}{w:World}(hn:dS P L false fr)(hne:cs=[]->fr.mode=.run\/fr.defers≠[])(h:∀ τ d,∃ fr' cs' w' es,stepG P false (G fr cs) (tp w τ d)=.go (G fr' cs') w' es/\QS S w w' es/\GW P L S Φ fr' cs' w'):GW P L S Φ fr cs w:=by
 have h':∀ r:(Nat->Question->Nat)×Nat,∃ s:Frame×List Frame×World×Array Event,stepG P false (G fr cs) (tp w r.1 r.2)=.go (G s.1 s.2.1) s.2.2.1 s.2.2.2/\QS S w s.2.2.1 s.2.2.2/\GW P L S Φ s.1 s.2.1 s.2.2.1:=fun r=>by
  obtain⟨fr',cs',w',es,h1,h0,h2⟩:=h r.1 r.2;exact⟨(fr',cs',w',es),h1,h0,h2⟩
 obtain⟨g,hg⟩:=qbU.1 h';exact .step hn hne (fun τ d=>(g (τ,d)).1) (fun τ d=>(g (τ,d)).2.1) (fun τ d=>(g (τ,d)).2.2.1) (fun τ d=>(g (τ,d)).2.2.2) (fun τ d=>(hg (τ,d)).1) (fun τ d=>(hg (τ,d)).2.1) (fun τ d=>(hg (τ,d)).2.2)
theorem GW.bind{P:Program}{L:FuncId->Bool}{S:Nat->Prop}{Φ Ψ:Frame->List Frame->World->Prop}{fr:Frame}{cs:List Frame}{w:World}(h:GW P L S Φ fr cs w)(hn:∀ fr cs w,(∀ τ d,Φ fr cs (tp w τ d))->GW P L S Ψ fr cs w):GW P L S Ψ fr cs w:=by
 induction h with
 | stop h=>exact hn _ _ _ h
 | step hok hne fr' cs' w' es h hq ht ih=>exact .step hok hne fr' cs' w' es h hq ih
theorem IX{l:List (Nat×Value)}{ops:Array Oper}(tmps:Array Value)(ho:(ops.all fun o=>Vt l o)=true):yielded ops (over l tmps)=yielded ops tmps:=by
 funext j;unfold yielded
 cases hj:ops[j]? with
 | none=>rfl
 | some o =>
  simp only[Option.bind_some]
  cases hd:o.dst with
  | none=>rfl
  | some d =>
   simp only[Option.bind_some];have ha:avD l o.dst=true:=by
    rw[YF] at ho;obtain⟨hlt,he⟩:=fT.1 hj;have:=ho j hlt;rw[he] at this;simp only[Vt,fE] at this;exact this.2
   rw[hd] at ha;rw[o9 _ _ _ ha]
theorem Tx{P:Program}{L:FuncId->Bool}{K:Op->Bool}{fr:Frame}{cs:List Frame}(T:xH)(hi:UQ P L K T fr cs)(h:dS P L true fr)(hf:cs=[]->fr.mode=.run\/fr.defers≠[]):dS P L false (uz T fr cs):=by
 have key:dS P L false fr:=by
  unfold dS at h ⊢
  cases hm:fr.mode with
  | run =>
   rw[hm] at h;exact fun ops i l k o h1 h2 h3=>⟨(h ops i l k o h1 h2 h3).1,(h ops i l k o h1 h2 h3).2.1,fun _ _=>rfl,fun _ _ _=>rfl,fun _ _ _=>rfl⟩
  | returning=>rw[hm] at h;exact h
  | panicking ch=>rw[hm] at h;exact h
 cases cs with
 | cons c cs=>exact key
 | nil =>
  show dS P L false (iR T fr);have hd:∀ d ds,fr.mode≠.run->(iR T fr).defers=d::ds->∃ ds',fr.defers=d::ds':=by
   intro d ds hm hd;have hne:=(hf rfl).resolve_left hm
   cases hx:fr.defers with
   | nil=>exact absurd hx hne
   | cons a l =>
    unfold iR at hd;rw[hx] at hd;simp only[NJ,qbo] at hd;exact⟨l,by rw[hd.1]⟩
  unfold dS at key ⊢;have e1:(iR T fr).mode=fr.mode:=rfl;rw[e1]
  cases hm:fr.mode with
  | run =>
   rw[hm] at key;intro ops i l k o h1 h2 h3;have hi':Items P L K T.2.2 fr.todo:=hi.1;have h1':∃ k,fr.todo=.inRegion ops (i::l)::k:=by
    have hc:=hi.2.cut;have h1c:o8 T.1.2 fr.todo=.inRegion ops (i::l)::k:=h1;rw[h1c] at hc;generalize fr.todo=t at hc
    cases t with
    | nil=>cases hc.nil
    | cons x t =>
     rcases hc.cons with⟨ζ,e,_⟩|⟨r,_,_,_,_,_,_,e⟩
     .injection e with e1 e2;exact⟨t,by rw[e1]⟩
     .injection e with e1 e2;cases r <;> cases e1
   obtain⟨k,h1'⟩:=h1';rw[h1'] at hi';have AY:=(aH.1 hi').1;simp only[Jr,YF,fE] at AY;have hall:(ops.all fun o=>Vt T.2.2 o)=true:=by
    simp only[YF];exact fun i hi=>(AY i hi).2
   have h3':Region.wanted o (yielded ops fr.tmps)=true:=by
    have:yielded ops (iR T fr).tmps=yielded ops fr.tmps:=IX fr.tmps hall;rw[this] at h3;exact h3
   have hk:=key ops i l k o h1' h2 h3';refine⟨hk.1,fun x hx=>?_,hk.2.2⟩;have hax:avX T.2.2 x=true:=by
    obtain⟨hlt,he⟩:=fT.1 h2;have:=(AY i hlt).2;rw[he] at this;simp only[Vt,fE] at this;have h4:=this.1;rw[hx] at h4;simpa[Op.operands] using h4
   have e:(iR T fr).eval x=fr.eval x:=by
    cases x with
    | tmp t =>
     show(over T.2.2 fr.tmps).getD t undef=fr.tmps.getD t undef;rw[Az,Az,o9 _ _ _ hax]
    | _=>rfl
   rw[e];exact hk.2.1 x hx
  | returning =>
   rw[hm] at key;intro d ds b ts t c h1 h2;obtain⟨ds',h3⟩:=hd d ds (by rw[hm];simp) h1;exact key d ds' b ts t c h3 h2
  | panicking ch =>
   rw[hm] at key;intro d ds b ts t c h1 h2;obtain⟨ds',h3⟩:=hd d ds (by rw[hm];simp) h1;exact key d ds' b ts t c h3 h2
theorem GT.above{P:Program}{L:FuncId->Bool}{K:Op->Bool}{S:Nat->Prop}{Φ Ψ:Frame->List Frame->World->Prop}{fr:Frame}{cs:List Frame}{w:World}(h:GT P L K S Φ fr cs w){T:xH}(hT:OkT T)(hi:UQ P L K T fr cs){B:List Frame}(hB:B≠[])(hn:∀ fr cs w,UQ P L K T fr cs->(∀ τ d,Φ fr cs (tp w τ d))->GW P L S Ψ (uz T fr cs) (yR T cs++B) w):GW P L S Ψ (uz T fr cs) (yR T cs++B) w:=by
 induction h with
 | stop h=>exact hn _ _ _ hi h
 | @step fr cs w hok hf fr' cs' w' h ht ih =>
  refine GW.step' (Tx T hi hok hf) (fun e=>absurd e (by simp[hB])) fun τ d=>?_
  have h1:=h τ d;obtain⟨hi',es,he,hev⟩:=h1.eqT T B false τ d hT hi (fun i _=>rfl);have e:tp (w' τ d) τ (d+((w' τ d).drawn-(tp w τ d).drawn))=w' τ d:=by
   have hd':d<=(w' τ d).drawn:=h1.drawn;have ht':(w' τ d).tape=τ:=h1.tape;generalize w' τ d=W at hd' ht';show({W with tape:=τ,drawn:=d+(W.drawn-d)}:World)=_;rw[show d+(W.drawn-d)=W.drawn by omega,<-ht']
  rw[e] at he;exact⟨_,_,_,_,he,⟨fun e he b hb hS=>by
   obtain⟨_,h2⟩:=acA (hev e he) hb;exact absurd hS h2,h1.frame⟩,ih τ d hi'⟩
section
variable {P:Program}{L:FuncId->Bool}{K:Op->Bool}{c n0:Nat}{w0:World}{R0 R:Nat->Nat->Prop}{S X X':Nat->Prop}{w w':World}{fr aB:Frame}{cs χ:List Frame}{wg:World}
structure RG(P:Program)(L:FuncId->Bool)(K:Op->Bool)(R:Nat->Nat->Prop)(fr:Frame)(cs:List Frame)(wg:World)(aB:Frame)(χ:List Frame)(w:World):Prop where
 gb:GB P R
 bnd:FZ R wg.heap.size w.heap.size
 heap:HR R L wg.heap w.heap
 sl:SL P R L K false O0 [] [] fr cs aB χ
structure Own2(L:FuncId->Bool)(S:Nat->Prop)(c n0:Nat)(w0:World)(R0:Nat->Nat->Prop)(R:Nat->Nat->Prop)(X:Nat->Prop)(w:World):Prop where
 cR:∀ a,¬ R a c
 cX:¬ X c
 Af:∀ a b,R a b->¬ X b
 own:∀ b,X b->n0<=b/\b<w.heap.size
 frame:∀ b,b<n0->(∀ a,¬ R a b)->b≠c->w.heap[b]? = w0.heap[b]?
 os:w.os=w0.os
 out:w.output=w0.output
 tape:w.tape=w0.tape
 sup:∀ a b,R0 a b->R a b
 E8:n0<=w.heap.size
 Zz:c<w.heap.size
 sid:∀ a b,R a b->S b->a=b
 slt:∀ b,S b->b<n0
 low:∀ a b,R a b->b<n0->R0 a b
 ss:∀ b,S b->R b b
 oq:∀ b:Nat,L (2*b+1000000001)=true->b<n0
theorem RG.at(h:RG P L K R fr cs wg aB χ w)(d:Nat):RG P L K R fr cs wg aB χ (w.at d):=⟨h.gb,h.bnd,h.heap,h.sl⟩
theorem Own2.at(h:Own2 L S c n0 w0 R0 R X w)(d:Nat):Own2 L S c n0 w0 R0 R X (w.at d):=⟨h.cR,h.cX,h.Af,h.own,h.frame,h.os,h.out,h.tape,h.sup,h.E8,h.Zz,h.sid,h.slt,h.low,h.ss,h.oq⟩
def Dis(c:Nat)(X:Nat->Prop)(R:Nat->Nat->Prop):Prop:=(∀ a b,R a b->¬ X b)/\¬ X c
theorem Own2.Vv(h:Own2 L S c n0 w0 R0 R X w):Dis c X R:=⟨h.Af,h.cX⟩
theorem Own2.cS(h:Own2 L S c n0 w0 R0 R X w):¬ S c:=fun hS=>h.cR c (h.ss c hS)
theorem zC(hb:FZ R wg.heap.size w.heap.size)(hh:HR R L wg.heap w.heap)(ho:Own2 L S c n0 w0 R0 R X w){es:Array Event}(h1:iw S X w w' es X'):HR R L wg.heap w'.heap/\FZ R wg.heap.size w'.heap.size:=by
 refine⟨⟨fun a b hab=>?_,fun b Zh=>?_,hh.Af⟩,fun a b hab=>⟨(hb a b hab).1,CW (hb a b hab).2 h1.size⟩⟩
 .rw[h1.frame b (hb a b hab).2 (ho.Af a b hab)];exact hh a b hab
 .obtain⟨x,e,h2,h3⟩:=hh.opq b Zh;refine⟨x,e,h2,?_⟩;rw[h1.frame b (fT.1 h3).1 fun hx=>?_]
  .exact h3
  .have:=(ho.own b hx).1;have:=ho.oq b Zh;omega
theorem RG.main(h:RG P L K R fr cs wg aB χ w)(ho:Own2 L S c n0 w0 R0 R X w){es:Array Event}(h1:iw S X w w' es X'):RG P L K R fr cs wg aB χ w' :=⟨h.gb,(zC h.bnd h.heap ho h1).2,(zC h.bnd h.heap ho h1).1,h.sl⟩
theorem Own2.main(ho:Own2 L S c n0 w0 R0 R X w)(hb:FZ R wg.heap.size w.heap.size){es:Array Event}(h1:iw S X w w' es X'):Own2 L S c n0 w0 R0 R X' w'/\w'.heap[c]? = w.heap[c]?:=by
 refine⟨⟨ho.cR,fun hx=>?_,fun a b hab hx=>?_,fun b hx=>?_,fun b hb' hn hc=>?_,h1.os.trans ho.os,h1.out.trans ho.out,h1.tape.trans ho.tape,ho.sup,tT ho.E8 h1.size,CW ho.Zz h1.size,ho.sid,ho.slt,ho.low,ho.ss,ho.oq⟩,h1.frame c ho.Zz ho.cX⟩
 .rcases h1.new c hx with h|h
  .exact ho.cX h
  .have:=ho.Zz;omega
 .rcases h1.new b hx with h|h
  .exact ho.Af a b hab h
  .have:=(hb a b hab).2;omega
 .rcases h1.new b hx with h|h
  .exact⟨(ho.own b h).1,CW (ho.own b h).2 h1.size⟩
  .exact⟨tT ho.E8 h.1,h.2⟩
 .rw[h1.frame b (CW hb' ho.E8) (fun hx=>by have:=(ho.own b hx).1;omega)];exact ho.frame b hb' hn hc
structure Wrk(L:FuncId->Bool)(S:Nat->Prop)(R R':Nat->Nat->Prop)(X:Nat->Prop)(c n0:Nat)(w0:World)(R0:Nat->Nat->Prop)(w w':World)(es:Array Event):Prop where
 own:Own2 L S c n0 w0 R0 R' X w'
 chan:w'.heap[c]? = w.heap[c]?
 rel:Rel S X w w'
 ev:∀ e∈es,Ev R' w'.heap.size e/\Qt S e
 sup:∀ a b,R a b->R' a b
theorem Wx{k:Nat}{es:Array Event}{IQ:World}{τ:Nat->Question->Nat}{d:Nat}(hgb:GB P R)(PK:FZ R wg.heap.size w.heap.size)(hheap:HR R L wg.heap w.heap)(ho:Own2 L S c n0 w0 R0 R X w)(hk:IQ.heap.size=wg.heap.size+k){eg:Array Event}(hq:QS S wg IQ eg)(hwd:Wd (ext R wg.heap.size w.heap.size k) L (tp wg τ d) w IQ w' #[] eg #[] es):Wrk L S R (ext R wg.heap.size w.heap.size k) X c n0 w0 R0 w w' es:=by
 have hsz:w'.heap.size=w.heap.size+k:=by have:=hwd.size;have e:(tp wg τ d).heap.size=wg.heap.size:=rfl;rw[e] at this;omega
 have hw:=hwd.world;have e1:w'.os=w.os:=by rw[hw]
 have e2:w'.output=w.output:=by rw[hw]
 have e3:w'.tape=w.tape:=by rw[hw]
 have hn:∀ b,b<w.heap.size->(∀ a,¬ R a b)->∀ a,¬ ext R wg.heap.size w.heap.size k a b:=by
  rintro b hb hn a (h|⟨i,_,_,rfl⟩)
  .exact hn a h
  .omega
 have acP:∀ a b,ext R wg.heap.size w.heap.size k a b->S b->a=b:=by
  rintro a b (h|⟨i,_,_,rfl⟩) hS
  .exact ho.sid a b h hS
  .have:=ho.slt _ hS;have:=ho.E8;omega
 have hlow:∀ a b,ext R wg.heap.size w.heap.size k a b->b<n0->R0 a b:=by
  rintro a b (h|⟨i,_,_,rfl⟩) hb
  .exact ho.low a b h hb
  .have:=ho.E8;omega
 have hch:w'.heap[c]? = w.heap[c]?:=hwd.frame c ho.Zz (hn c ho.Zz ho.cR);refine⟨⟨hn c ho.Zz ho.cR,ho.cX,?_,fun b hx=>⟨(ho.own b hx).1,by have:=(ho.own b hx).2;omega⟩,fun b hb hnb hc=>?_,e1.trans ho.os,e2.trans ho.out,e3.trans ho.tape,fun a b h=>.inl (ho.sup a b h),by have:=ho.E8;omega,by have:=ho.Zz;omega,acP,ho.slt,hlow,fun b hS=>.inl (ho.ss b hS),ho.oq⟩,hch,⟨fun b hx=>?_,fun b hS=>?_,by omega,e1,e2,e3⟩,?_,fun a b h=>.inl h⟩
 .rintro a b (h|⟨i,_,_,rfl⟩) hx
  .exact ho.Af a b h hx
  .have:=(ho.own _ hx).2;omega
 .have hlt:b<w.heap.size:=CW hb ho.E8;rw[hwd.frame b hlt hnb];exact ho.frame b hb (fun a h=>hnb a (.inl h)) hc
 .exact hwd.frame b (ho.own b hx).2 (hn b (ho.own b hx).2 fun a h=>ho.Af a b h hx)
 .have h1:=hheap b b (ho.ss b hS);have h2:=hwd.heap b b (.inl (ho.ss b hS));have h3:IQ.heap[b]? = wg.heap[b]?:=hq.2 b hS;rw[h3] at h2;exact(OO.fn (fun a b b' h h'=>(hgb.ext PK k).fn a b b' h h') (fun a b h=>(hwd.heap.Af a b h).1) (h1.mono fun a b h=>.inl h) h2).symm
 .obtain⟨l,hl0,hl1,hl2⟩:=hwd.ev;intro e he;rw[hl1] at he;have he:e∈l.map (·.2):=by simpa using he
  obtain⟨p,hp,rfl⟩:=ZW.1 he;have hpe:=hl2 p hp;refine⟨hpe.ev,fun b hb hS=>?_⟩;have hg:Qt S p.1:=hq.1 p.1 (by rw[hl0];simpa using⟨p.2,hp⟩);obtain⟨e0,e1⟩:=p;simp only at hpe hg hb
  cases hpe with
  | cell a b' wr h hn =>
   cases hb
   exact hg a.block rfl (by rw[acP _ _ h hS];exact hS)
  | obj r r' wr h hn =>
   cases hb
   exact hg r rfl (by rw[acP _ _ h hS];exact hS)
  | mark m hm=>cases hb
theorem Sk(hK:vB P L K)(hL:∀ f,L f=true->fK P f)(h:RG P L K R fr cs wg aB χ w)(ho:Own2 L S c n0 w0 R0 R X w)(hn:dS P L false fr)(hne:cs=[]->fr.mode=.run\/fr.defers≠[]){fr':Frame}{cs':List Frame}{IQ:World}{es':Array Event}(hst:stepG P false (G fr cs) (tp wg (fun j=>w.tape (w.drawn+j)) 0)=.go (G fr' cs') IQ es')(hq:QS S wg IQ es'):∃ bC dA w' es R',stepG P false (G aB χ) w=.go (G bC dA) w' es/\RG P L K R' fr' cs' IQ bC dA w'/\Wrk L S R R' X c n0 w0 R0 w w' es:=by
 obtain⟨k,hk,hsg,hwd⟩:=xV (main:=false) (dK:=false) (w:=tp wg (fun j=>w.tape (w.drawn+j)) 0) (ω:=w) (B:=[]) (dI:=[]) h.gb hK hL h.bnd h.heap h.sl hn hne (by rw[hst];exact id) (fun i _=>by simp[tp]);rw[hst] at hk hsg hwd;generalize hs₁:stepG P false (G aB χ) w=s₁ at hsg hwd
 cases hsg with
 | @go _ bC _ dA _ w' _ es hsl =>
  have hk':IQ.heap.size=wg.heap.size+k:=hk;have hW:=Wx (X:=X) h.gb h.bnd h.heap ho hk' hq hwd;have X9:Wd (ext R wg.heap.size w.heap.size k) L (tp wg (fun j=>w.tape (w.drawn+j)) 0) w IQ w' #[] es' #[] es:=hwd;refine⟨bC,dA,w',es,_,rfl,⟨h.gb.ext h.bnd k,?_,X9.heap,hsl⟩,hW⟩;have hsz:w'.heap.size=w.heap.size+k:=by have:=X9.size;have e:(tp wg (fun j=>w.tape (w.drawn+j)) 0).heap.size=wg.heap.size:=rfl;rw[e] at this;omega
  rintro a b (hab|⟨i,hi,rfl,rfl⟩)
  .have:=h.bnd a b hab;omega
  .have e:(tp wg (fun j=>w.tape (w.drawn+j)) 0).heap.size=wg.heap.size:=rfl;omega
theorem Ua(hK:vB P L K)(hL:∀ f,L f=true->fK P f)(h:RG P L K R fr cs wg aB χ w)(ho:Own2 L S c n0 w0 R0 R X w)(hn:dS P L false fr)(hne:cs≠[]){cases:Array CommCase}{bl:Bool}{sh:CommShape}{IQ:World}{es':Array Event}(hst:stepG P false (G fr cs) (tp wg (fun j=>w.tape (w.drawn+j)) 0)=.comm (G fr cs) cases bl sh IQ es')(hq:QS S wg IQ es'):∃ bC dA D8 w' es R',stepG P false (G aB χ) w=.comm (G bC dA) D8 bl sh w' es/\CV R' L cases D8/\RG P L K R' fr cs IQ bC dA w'/\Wrk L S R R' X c n0 w0 R0 w w' es:=by
 obtain⟨k,hk,hsg,hwd⟩:=xV (main:=false) (dK:=false) (w:=tp wg (fun j=>w.tape (w.drawn+j)) 0) (ω:=w) (B:=[]) (dI:=[]) h.gb hK hL h.bnd h.heap h.sl hn (fun e=>absurd e hne) (by rw[hst];exact id) (fun i _=>by simp[tp]);rw[hst] at hk hsg hwd;generalize hs₁:stepG P false (G aB χ) w=s₁ at hsg hwd
 cases hsg with
 | @comm _ bC _ dA _ w' _ es x y hz hsl hxy b s =>
  have hk':IQ.heap.size=wg.heap.size+k:=hk;have hW:=Wx (X:=X) h.gb h.bnd h.heap ho hk' hq hwd;have X9:Wd (ext R wg.heap.size w.heap.size k) L (tp wg (fun j=>w.tape (w.drawn+j)) 0) w IQ w' #[] es' #[] es:=hwd;refine⟨bC,dA,y,w',es,_,rfl,hxy,⟨h.gb.ext h.bnd k,?_,X9.heap,hsl⟩,hW⟩;have hsz:w'.heap.size=w.heap.size+k:=by have:=X9.size;have e:(tp wg (fun j=>w.tape (w.drawn+j)) 0).heap.size=wg.heap.size:=rfl;rw[e] at this;omega
  rintro a b (hab|⟨i,hi,rfl,rfl⟩)
  .have:=h.bnd a b hab;omega
  .have e:(tp wg (fun j=>w.tape (w.drawn+j)) 0).heap.size=wg.heap.size:=rfl;omega
end
end Sr
end
section
open Go.Conc
open Go.ConcN (sumTo upd sumTo_upd upd_ne upd_same)
open Cc (tp Ai jV Shut Comm heard_new lI)
namespace Sr
def XL(S X:Nat->Prop)(l:Loc)(wr:Bool):Prop:=∃ b,blk l=some b/\(X b\/(S b/\wr=false))
def YL(S:Nat->Prop)(c:Nat)(R:Nat->Nat->Prop)(l:Loc)(wr:Bool):Prop:=∃ b,blk l=some b/\((∃ a,R a b/\(S b->wr=false))\/(b=c/\wr=false))
theorem EG{R:Nat->Nat->Prop}{n:Nat}{e:Event}(h:Ev R n e):(MemAct.ofEvent e).low n/\(e.loc≠.mark .disable/\e.loc≠.mark .enable)/\∀ b,(MemAct.ofEvent e).touch? = some b->b.loc=e.loc/\b.write=e.write/\∃ x y,blk e.loc=some x/\R y x:=by
 obtain⟨loc,wr,sy⟩:=e;rcases h with⟨a,x,h1,h2,h3,h4⟩|⟨r,x,h1,h2,h3,h4⟩|⟨m,h1,h2,h3,h4⟩
 .simp only at h1 h4;subst h1 h4;refine⟨?_,by simp,fun b hb=>?_⟩
  .show a.block<n;exact h3
  .simp[MemAct.ofEvent,MemAct.touch?] at hb;subst hb;exact⟨rfl,rfl,_,x,rfl,h2⟩
 .simp only at h1 h4;subst h1 h4;refine⟨?_,by simp,fun b hb=>?_⟩
  .cases wr
   .show r<n;exact h3
   .show r<n;exact h3
  .simp[MemAct.ofEvent,MemAct.touch?] at hb;subst hb;exact⟨rfl,rfl,_,x,rfl,h2⟩
 .simp only at h1 h3 h4;subst h1 h3 h4
  cases m <;> first|(cases h2;done)|exact⟨trivial,by simp,fun b hb=>by simp[MemAct.ofEvent,MemAct.touch?] at hb⟩
section
variable {S X:Nat->Prop}{R:Nat->Nat->Prop}{c k B n:Nat}{t:Trace}
theorem yO(hd:Dis c X R):∀ l x y,XL S X l x->YL S c R l y->x=false/\y=false:=by
 rintro l x y ⟨b,h1,h2⟩ ⟨b',h3,h4⟩;rw[h1] at h3
 cases h3
 rcases h4 with⟨a,h4,h5⟩|⟨h4,h5⟩
 .rcases h2 with h2|⟨h2,h6⟩
  .exact absurd h2 (hd.1 _ _ h4)
  .exact⟨h6,h5 h2⟩
 .rcases h2 with h2|⟨h2,h6⟩
  .exact absurd (h4 ▸ h2) hd.2
  .exact⟨h6,h5⟩
theorem Ic{e:Event}(h:EvX X S n e):(MemAct.ofEvent e).low n/\(e.loc≠.mark .disable/\e.loc≠.mark .enable)/\∀ b,(MemAct.ofEvent e).touch? = some b->XL S X b.loc b.write:=by
 rcases h with h|⟨h,hw⟩
 .have:=EG h;refine⟨this.1,this.2.1,fun b hb=>?_⟩;obtain⟨e1,e2,x,_,h1,h2⟩:=this.2.2 b hb;exact⟨x,by rw[e1];exact h1,.inl h2⟩
 .have:=EG h;refine⟨this.1,this.2.1,fun b hb=>?_⟩;obtain⟨e1,e2,x,_,h1,h2⟩:=this.2.2 b hb;exact⟨x,by rw[e1];exact h1,.inr ⟨h2,e2.trans hw⟩⟩
theorem aaQ{e:Event}(h:Ev R n e)(hq:Qt S e):∀ b,(MemAct.ofEvent e).touch? = some b->YL S c R b.loc b.write:=by
 intro b hb;obtain⟨e1,e2,x,y,h1,h2⟩:=(EG h).2.2 b hb;exact⟨x,by rw[e1];exact h1,.inl ⟨y,h2,fun hS=>by rw[e2];exact hq x h1 hS⟩⟩
theorem Mid.Zb(h:Mid (XL S X) (YL S c R) k B t)(hd:Dis c X R)(hk0:k≠0){fn:FuncId}{pos:String}{es:Array Event}(hn:n<=B)(hes:∀ e∈es,EvX X S n e):Mid (XL S X) (YL S c R) k B (t++MemOp.ofEvents 0 fn pos es):=by
 refine h.app0 (yO hd) hk0 (fun op hop=>by obtain⟨e,_,rfl⟩:=Go.Conc.mem_ofEvents hop;rfl) (fun op hop b hb=>?_) ?_ (fun op hop=>by obtain⟨e,he,rfl⟩:=Go.Conc.mem_ofEvents hop;exact MemAct.low_mono hn (Ic (hes e he)).1)
 .obtain⟨e,he,rfl⟩:=Go.Conc.mem_ofEvents hop;exact(Ic (hes e he)).2.2 b hb
 .rw[Deaf_own];exact deafBehind_still (fun e he=>(Ic (hes e he)).2.1) _
theorem Mid.afP(h:Mid (XL S X) (YL S c R) k B t)(hd:Dis c X R)(hk0:k≠0){fn:FuncId}{pos:String}{es:Array Event}(hn:n<=B)(hes:∀ e∈es,Ev R n e/\Qt S e):Mid (XL S X) (YL S c R) k B (t++MemOp.ofEvents k fn pos es):=by
 refine h.adb (yO hd) hk0 (fun op hop=>by obtain⟨e,_,rfl⟩:=Go.Conc.mem_ofEvents hop;rfl) (fun op hop b hb=>?_) ?_ (fun op hop=>by obtain⟨e,he,rfl⟩:=Go.Conc.mem_ofEvents hop;exact MemAct.low_mono hn (EG (hes e he).1).1)
 .obtain⟨e,he,rfl⟩:=Go.Conc.mem_ofEvents hop;exact aaQ (hes e he).1 (hes e he).2 b hb
 .rw[Deaf_own];exact deafBehind_still (fun e he=>(EG (hes e he).1).2.1) _
theorem Mid.ab0(h:Mid (XL S X) (YL S c R) k B t)(hd:Dis c X R)(hk0:k≠0)(hc:c<B){op:MemOp}(ho:Comm k c op):Mid (XL S X) (YL S c R) k B (t++#[op]):=by
 rcases ho.1 with h0|h0
 .exact h.app0 (yO hd) hk0 (by simp[h0]) (by intro x hx b hb;simp at hx;subst hx;rw[ho.touch] at hb;cases hb) (by rw[Deaf_push,ho.deaf]) (by intro x hx;simp at hx;subst hx;exact ho.low hc)
 .exact h.adb (yO hd) hk0 (by simp[h0]) (by intro x hx b hb;simp at hx;subst hx;rw[ho.touch] at hb;cases hb) (by rw[Deaf_push,ho.deaf]) (by intro x hx;simp at hx;subst hx;exact ho.low hc)
theorem Mid.comms(hd:Dis c X R)(hk0:k≠0)(hc:c<B):∀ {u:List MemOp}{t:Trace},Mid (XL S X) (YL S c R) k B t->(∀ op∈u,Comm k c op)->Mid (XL S X) (YL S c R) k B (t++u.toArray)
 | [],t,h,_=>by simpa using h
 | x::u,t,h,hu=>by
  have e:t++(x::u).toArray=t++#[x]++u.toArray:=by simp
  rw[e];exact Mid.comms hd hk0 hc (h.ab0 hd hk0 hc (hu x (by simp))) fun op hop=>hu op (by simp[hop])
theorem Mid.adg(h:Mid (XL S X) (YL S c R) k B t)(hd:Dis c X R)(hk0:k≠0)(hc:c<B){u:Trace}(hu:∀ op∈u,Comm k c op):Mid (XL S X) (YL S c R) k B (t++u):=by
 obtain⟨l⟩:=u;exact Mid.comms hd hk0 hc h fun op hop=>hu op (by simpa using hop)
theorem Mid.mute(h:Mid (XL S X) (YL S c R) k B t){g:Nat}(hg:g≠0)(hgk:g≠k){fn:FuncId}{pos:String}{es:Array Event}(hm:∀ e∈es,e.mute=true):Mid (XL S X) (YL S c R) k B (t++MemOp.ofEvents g fn pos es) :=h.appMute hg hgk (fun op hop=>by obtain⟨e,_,rfl⟩:=Go.Conc.mem_ofEvents hop;rfl) (fun op hop=>by obtain⟨e,he,rfl⟩:=Go.Conc.mem_ofEvents hop;exact touch_mute (hm e he)) (fun op hop=>by obtain⟨e,he,rfl⟩:=Go.Conc.mem_ofEvents hop;exact low_mute (hm e he) B)
theorem XL.mono{X X':Nat->Prop}(h:∀ b,X b->X' b):∀ l x,XL S X l x->XL S X' l x:=fun l x ⟨b,h1,h2⟩=>⟨b,h1,h2.imp (h b) id⟩
theorem YL.mono{R R':Nat->Nat->Prop}(h:∀ a b,R a b->R' a b):∀ l x,YL S c R l x->YL S c R' l x:=fun l x ⟨b,h1,h2⟩=>⟨b,h1,h2.imp (fun⟨a,h2,h3⟩=>⟨a,h a b h2,h3⟩) id⟩
end
theorem Gi{k c s r cap i j:Nat}(hi:i=0/\j=k\/i=k/\j=0)(f1 f2 f3 f4:FuncId)(p1 p2 p3 p4:String):∀ op∈(#[{g:=i,fn:=f1,pos:=p1,act:=.send c s},{g:=j,fn:=f2,pos:=p2,act:=.recv c r cap},{g:=i,fn:=f3,pos:=p3,act:=.sendDone c s},{g:=j,fn:=f4,pos:=p4,act:=.recvDone c r}]:Array MemOp),Comm k c op:=by
 intro op hop;simp only[qch,rD,xS,or_false] at hop;have h1:i=0\/i=k:=by omega
 have h2:j=0\/j=k:=by omega
 rcases hop with rfl|rfl|rfl|rfl
 .exact⟨h1,.inl ⟨_,rfl⟩⟩
 .exact⟨h2,.inr (.inr (.inl ⟨_,_,rfl⟩))⟩
 .exact⟨h1,.inr (.inl ⟨_,rfl⟩)⟩
 .exact⟨h2,.inr (.inr (.inr (.inl ⟨_,rfl⟩)))⟩
section
variable (P:Program)(L:FuncId->Bool)(K:Op->Bool)(S:Nat->Prop)(c n0:Nat)(w0:World)(R0:Nat->Nat->Prop)(k:Nat)(z:Value)(Sh:Value->Prop)(Fin:List Value->(Nat->Prop)->Goroutine->World->Prop)(fU:List Value->World->Prop)
def RM:Nat->List Value->(Nat->Prop)->Goroutine->World->Prop
 | 0,acc,X,g,w=>∃ n,MG P S (fun X g w=>AtRecv P S c z X g w (Fin acc X (Go.Conc.served (core g) (.tuple #[z,.bool false])) w)) n X g w
 | m+1,acc,X,g,w=>∃ n,MG P S (fun X g w=>AtRecv P S c z X g w (∀ v,Sh v->RM m (acc++[v]) X (Go.Conc.served (core g) (.tuple #[v,.bool true])) w)) n X g w
def gZ:Nat->List Value->(Nat->Prop)->Goroutine->World->Prop
 | 0,acc=>fun X g w=>AtRecv P S c z X g w (Fin acc X (Go.Conc.served (core g) (.tuple #[z,.bool false])) w)
 | m+1,acc=>fun X g w=>AtRecv P S c z X g w (∀ v,Sh v->RM P S c z Sh Fin m (acc++[v]) X (Go.Conc.served (core g) (.tuple #[v,.bool true])) w)
theorem Dk(m:Nat)(acc:List Value)(X:Nat->Prop)(g:Goroutine)(w:World):RM P S c z Sh Fin m acc X g w↔∃ n,MG P S (gZ P S c z Sh Fin m acc) n X g w:=by cases m <;> exact Iff.rfl
def abQ(fr:Frame)(cs:List Frame)(w:World)(v π:Value):Prop :=dS P L false fr/\cs≠[]/\∃ μ es,stepG P false (G fr cs) w=.comm (G fr cs) #[scase c v μ,rcaseNil π] true .select w es/\∀ e∈es,Qt S e
def AtShut(g:Goroutine):Prop :=g.status=.running/\mayWake P g=true/\∃ ξ n,(∀ w s r tm,w.heap[c]? = some (.chan 0 #[] false s r tm)->stepG P false g w=.go ξ (w.setChan c 0 #[] true s r tm) #[⟨.obj c,false,true⟩,⟨.obj c,true,true⟩])/\QuitsIn P n ξ
def Closing(fr:Frame)(cs:List Frame):Prop:=∀ R aB χ,SL P R L K false O0 [] [] fr cs aB χ->AtShut P c (G aB χ)
def WS:Nat->List Value->Frame->List Frame->World->Prop
 | 0,vs,fr,cs,w=>GW P L S (fun fr cs w=>Closing P L K c fr cs/\fU vs w) fr cs w
 | m+1,vs,fr,cs,w=>GW P L S (fun fr cs w=>∃ v π,abQ P L S c fr cs w v π/\Sh v/\WS m (vs++[v]) (fr.finish (.tuple #[goInt 0,.bool false,π])) cs w) fr cs w
def qY:Nat->List Value->Frame->List Frame->World->Prop
 | 0,vs=>fun fr cs w=>Closing P L K c fr cs/\fU vs w
 | m+1,vs=>fun fr cs w=>∃ v π,abQ P L S c fr cs w v π/\Sh v/\WS P L K S c Sh fU m (vs++[v]) (fr.finish (.tuple #[goInt 0,.bool false,π])) cs w
theorem gT(m:Nat)(vs:List Value)(fr:Frame)(cs:List Frame)(w:World):WS P L K S c Sh fU m vs fr cs w↔GW P L S (qY P L K S c Sh fU m vs) fr cs w:=by cases m <;> exact Iff.rfl
def MS(m:Nat)(acc:List Value)(X:Nat->Prop)(a:Goroutine)(w:World)(ρ:Nat):Prop :=(∃ n,ρ=n+1/\MG P S (gZ P S c z Sh Fin m acc) n X a w)\/(ρ=0/\∃ g,a=parked (core g) #[rcase c z] (.recv true)/\∀ ω,Rel S X w ω->gZ P S c z Sh Fin m acc X g ω)
def WR(m:Machine)(t:Trace):Prop :=∃ (gs:Array Goroutine)(a:Goroutine)(w:World)(sl:Option (Nat×Nat))(q:Nat->Nat)(B:Nat)(X:Nat->Prop)(R:Nat->Nat->Prop)(wg:World)(vs acc:List Value),
  m=crowd gs w sl/\gs[0]? = some a/\Fin acc X a w/\fU vs wg/\LV R L vs acc/\GB P R/\FZ R wg.heap.size w.heap.size/\HR R L wg.heap w.heap/\Own2 L S c n0 w0 R0 R X w/\Leavers P t gs q/\Past Ai B t/\w.heap.size<=B
def Fb(m:Machine)(t:Trace):Prop:=∃ N m' t',runNT P N m t=(.next m',t')/\WR P L S c n0 w0 R0 Fin fU m' t'
end
section
variable {P:Program}{L:FuncId->Bool}{K:Op->Bool}{S:Nat->Prop}{c n0:Nat}{w0:World}{R0:Nat->Nat->Prop}{k:Nat}{z:Value}{Sh:Value->Prop}{Fin:List Value->(Nat->Prop)->Goroutine->World->Prop}{fU:List Value->World->Prop}
variable {gs:Array Goroutine}{a b:Goroutine}{w:World}{sl:Option (Nat×Nat)}{t:Trace}{q:Nat->Nat}{B m ρ:Nat}{X:Nat->Prop}{R:Nat->Nat->Prop}{vs acc:List Value}{s r:Nat}{tm:Bool}
theorem gZ.running{g:Goroutine}(h:gZ P S c z Sh Fin m acc X g w):g.status=.running:=by cases m <;> exact h.1
theorem gZ.comm{g:Goroutine}(h:gZ P S c z Sh Fin m acc X g w):∃ es,stepG P true g w=.comm (core g) #[rcase c z] true (.recv true) w es/\∀ e∈es,EvX X S w.heap.size e:=by cases m <;> exact h.2.1
theorem gZ.again{g:Goroutine}(h:gZ P S c z Sh Fin m acc X g w):gZ P S c z Sh Fin m acc X {parked (core g) #[rcase c z] (.recv true) with status:=.running} w:=by
 have e:stepG P true {parked (core g) #[rcase c z] (.recv true) with status:=.running} w=stepG P true g w:=stepG_same rfl rfl rfl w
 cases m <;> exact⟨rfl,by obtain⟨es,h1,h2⟩:=h.2.1;exact⟨es,by rw[e];exact h1,h2⟩,h.2.2⟩
theorem MS.rely{ω:World}(h:MS P S c z Sh Fin m acc X a w ρ)(hr:Rel S X w ω):MS P S c z Sh Fin m acc X a ω ρ:=by
 rcases h with⟨n,e,hg⟩|⟨e,g,ea,hs⟩
 .exact .inl ⟨n,e,hg.rely hr⟩
 .exact .inr ⟨e,g,ea,fun ψ Ξ=>hs ψ (hr.trans Ξ)⟩
theorem MS.status(h:MS P S c z Sh Fin m acc X a w ρ):(a.status=.running/\0<ρ)\/(a.status=.blocked/\ρ=0):=by
 rcases h with⟨n,e,hg⟩|⟨e,g,rfl,_⟩
 .exact .inl ⟨hg.running (fun _ _ _=>gZ.running),by omega⟩
 .exact .inr ⟨rfl,e⟩
theorem MS.woken{g g':Goroutine}{w':World}(h:MS P S c z Sh Fin m acc X a w ρ){cap s r:Nat}{buf:Array Value}{tm:Bool}(hc:w'.heap[c]? = some (.chan cap buf false s r tm)):woken P g g' w' a=a:=by
 rcases h with⟨n,e,hg⟩|⟨e,g,rfl,_⟩
 .exact woken_running (hg.running (fun _ _ _=>gZ.running))
 .exact woken_recv_open _ _ hc
theorem Fb.step{m m1:Machine}{ops:Array MemOp}(hs:stepT P m=(.next m1,ops))(h:Fb P L S c n0 w0 R0 Fin fU m1 (t++ops)):Fb P L S c n0 w0 R0 Fin fU m t:=by
 obtain⟨N,m',t',hr,hd⟩:=h;exact⟨N+1,m',t',by simp only[runNT,hs];exact hr,hd⟩
theorem Jl(hX:¬ X c)(hS:¬ S c)(w:World)(cap:Nat)(buf:Array Value)(cl:Bool)(s r:Nat)(tm:Bool):Rel S X w (w.setChan c cap buf cl s r tm) :=⟨fun b hb=>by simp only[World.setChan];rw[ow (fun e:c=b=>hX (by rw[e];exact hb))],fun b hb=>by simp only[World.setChan];rw[ow (fun e:c=b=>hS (by rw[e];exact hb))],by rw[size_setChan];exact aY _,rfl,rfl,rfl⟩
theorem Own2.set(ho:Own2 L S c n0 w0 R0 R X w)(cap:Nat)(buf:Array Value)(cl:Bool)(s r:Nat)(tm:Bool):Own2 L S c n0 w0 R0 R X (w.setChan c cap buf cl s r tm) :=⟨ho.cR,ho.cX,ho.Af,fun b hb=>by rw[size_setChan];exact ho.own b hb,fun b hb hn hc=>by simp only[World.setChan];rw[ow (Ao hc)];exact ho.frame b hb hn hc,ho.os,ho.out,ho.tape,ho.sup,by rw[size_setChan];exact ho.E8,by rw[size_setChan];exact ho.Zz,ho.sid,ho.slt,ho.low,ho.ss,ho.oq⟩
theorem heap_set{wg:World}(hh:HR R L wg.heap w.heap)(hb:FZ R wg.heap.size w.heap.size)(ho:Own2 L S c n0 w0 R0 R X w){s0 r0:Nat}{tm0:Bool}{ael:Array Value}{cl0:Bool}{cap0:Nat}(hc0:w.heap[c]? = some (.chan cap0 ael cl0 s0 r0 tm0))(cap:Nat)(buf:Array Value)(cl:Bool)(s r:Nat)(tm:Bool):HR R L wg.heap (w.setChan c cap buf cl s r tm).heap/\FZ R wg.heap.size (w.setChan c cap buf cl s r tm).heap.size:=by
 refine⟨⟨fun a b hab=>?_,fun b Zh=>?_,hh.Af⟩,by rw[size_setChan];exact hb⟩
 .simp only[World.setChan];rw[ow (fun e:c=b=>ho.cR a (by rw[e];exact hab))];exact hh a b hab
 .obtain⟨x,e,h2,h3⟩:=hh.opq b Zh;refine⟨x,e,h2,?_⟩;simp only[World.setChan];rw[ow (fun e:c=b=>by rw[e,h3] at hc0;cases hc0)];exact h3
theorem RG.set{fr aB:Frame}{cs χ:List Frame}{wg:World}(h:RG P L K R fr cs wg aB χ w)(ho:Own2 L S c n0 w0 R0 R X w){s0 r0:Nat}{tm0:Bool}{ael:Array Value}{cl0:Bool}{cap0:Nat}(hc0:w.heap[c]? = some (.chan cap0 ael cl0 s0 r0 tm0))(cap:Nat)(buf:Array Value)(cl:Bool)(s r:Nat)(tm:Bool):RG P L K R fr cs wg aB χ (w.setChan c cap buf cl s r tm) :=⟨h.gb,(heap_set h.heap h.bnd ho hc0 cap buf cl s r tm).2,(heap_set h.heap h.bnd ho hc0 cap buf cl s r tm).1,h.sl⟩
theorem LV.append{x y:List Value}{v u:Value}(h:LV R L x y)(hv:VR R L v u):LV R L (x++[v]) (y++[u]):=LV.app h (.cons hv .nil)
theorem LV.mono{R':Nat->Nat->Prop}(hR:∀ a b,R a b->R' a b){x y:List Value}(h:LV R L x y):LV R' L x y:=by
 induction h with
 | nil=>exact .nil
 | cons h _ ih=>exact .cons (h.mono hR) ih
theorem Yc{wg:World}(hR:GB P R)(hFG:fU vs wg):∀ (M:Nat){gs:Array Goroutine}{a b:Goroutine}{w:World}{sl:Option (Nat×Nat)}{t:Trace}{q:Nat->Nat}{B:Nat}{X:Nat->Prop}{na nb pc s r:Nat}{tm:Bool},
  na+nb+sumTo k q=M->jV P t gs k q->gs[0]? = some a->gs[k]? = some b->w.heap[c]? = some (.chan 0 #[] true s r tm)->FZ R wg.heap.size w.heap.size->HR R L wg.heap w.heap->Own2 L S c n0 w0 R0 R X w->LV R L vs acc ->
  MG P S (gZ P S c z Sh Fin 0 acc) na X a w->QuitsIn P nb b->Mid (XL S X) (YL S c R) k B t->Shut k c pc t->w.heap.size<=B->Fb P L S c n0 w0 R0 Fin fU (crowd gs w sl) t:=by
 intro M
 induction M using Nat.strongRecOn with
 | _ M Qw =>
 intro gs a b w sl t q B X na nb pc s r tm hM fH ha hb hc hbd hh ho hlv sa sb mid sh hB;have hk0:k≠0:=by have:=fH.pos;omega
 have Q9:a.status=.running:=sa.running (fun _ _ _=>gZ.running);have haw:=fH.awake ha hb (.inl Q9) (sb.status.elim .inl fun x=>.inr (.inr x));obtain⟨i,g,d,sl',hi,hg,hst⟩:=crowd_pick (P:=P) (w:=w) (sl:=sl) haw ⟨0,a,ha,Q9⟩;have U8:=sa.rely (Rel.at S X w d);have hod:=ho.at d;have hcd:(w.at d).heap[c]? = some (.chan 0 #[] true s r tm):=hc;rcases UZ i with rfl|hp
 .rw[ha] at hi;cases hi
  rcases U8.cases with hstop|⟨n',rfl,hr,hstep⟩
  .
   have hs:=hstop (w.at d) (Rel.refl S X _);obtain⟨es,hcomm,hes⟩:=hs.comm;have hbn:∀ s,offersAt b c s=[]:=fun s=>offersAt_of_not_blocked (by rcases sb.status with x|x <;> rw[x] <;> simp) c s
   have hpn:partners (gs.setIfInBounds 0 ph) c true=[]:=fH.partners_nil ha hb (fun h=>absurd rfl h) fun _=>hbn _
   have hcB:c<B:=Cc.adA hc hB;have hmid:=mid.Zb (fn:=a.frame.fn) (pos:=a.frame.place) ho.Vv hk0 (n:=w.heap.size) hB hes;have hrunT:=crowd_recv_closed (sl:=sl') ha (show stepG P (0==0) a (w.at d)=_ from hcomm) hcd hpn;rw[show(core a).finishComm P #[rcase c z] (.recv true) 0 z false=Go.Conc.served (core a) (.tuple #[z,.bool false]) from finishComm_recv P _ _ true 0 z false] at hrunT;have hsh:Shut k c pc (t++MemOp.ofEvents 0 a.frame.fn a.frame.place es):=sh.app fun op hop hg=>by obtain⟨e,_,rfl⟩:=Go.Conc.mem_ofEvents hop;exact absurd hg (by simpa using hk0.symm)
   have hpast:=hmid.past (yO ho.Vv) hk0 hsh (y:={g:=0,fn:=(core a).frame.fn,pos:=(core a).frame.place,act:=.recvClosed c}) rfl rfl hcB;have hdeaf:∀ j,j≠0->Deaf (t++(MemOp.ofEvents 0 a.frame.fn a.frame.place es++#[{g:=0,fn:=(core a).frame.fn,pos:=(core a).frame.place,act:=.recvClosed c}])) j=Deaf t j:=fun j hj=>by
    refine Deaf_other t (g':=0) (Ao hj) _ fun op hop=>?_
    rcases Array.mem_append.1 hop with h|h
    .obtain⟨e,_,rfl⟩:=Go.Conc.mem_ofEvents h;rfl
    .simp at h;subst h;rfl
   refine Fb.step (hst.trans hrunT) ⟨0,_,_,rfl,_,Go.Conc.served (core a) (.tuple #[z,.bool false]),w.at d,sl',upd q k nb,B,X,R,wg,vs,acc,rfl,Cc.pE fH.size,hs.2.2,hFG,hlv,hR,hbd,hh,hod,⟨fun i g h0 hi=>?_,fun j hj=>?_⟩,by rw[<-qbF];exact hpast,hB⟩
   .rw[hdeaf i (by omega)];rw[ow (by omega)] at hi;by_cases hik:i=k
    .subst hik;rw[hb] at hi;cases hi
     rw[upd_same,mid.zw];exact QuitsD.of_quitsIn sb
    .rw[upd_ne q nb hik];exact fH.old i g h0 (by have:=(fT.1 hi).1;have:=fH.size;omega) hi
   .have hj':k+1<=j:=by simpa[fH.size] using hj
    rw[hdeaf j (by omega)];exact fH.above j (by omega)
  .obtain⟨a',w',es,X',hgo,hown,hG⟩:=hstep (w.at d) (Rel.refl S X _);have hm:=zC (w:=w.at d) hbd hh hod hown;have hm2:=hod.main (wg:=wg) hbd hown;have hrunT:=runT_crowd_go (P:=P) (sl:=sl') (i:=0) ha (show stepG P (0==0) a (w.at d)=_ from hgo);refine Fb.step (hst.trans hrunT) (Qw (n'+nb+sumTo k q) (by omega) (a:=a') (b:=b) (q:=q) (B:=max B w'.heap.size) (X:=X') (na:=n') (nb:=nb) (pc:=pc) (s:=s) (r:=r) (tm:=tm) rfl (fH.own (.inl rfl) a a' a' w' _ _ es) (Cc.pE (k:=k) (by simp[fH.size])) ?_ (hm2.2.trans hcd) hm.2 hm.1 hm2.1 hlv hG sb
    ((mid.mono (Z5 _ _) (XL.mono hown.sub) fun _ _ h=>h).Zb hm2.1.Vv hk0 (n:=w'.heap.size) (J9 _ _) hown.ev) (sh.app fun op hop hg=>by obtain⟨e,_,rfl⟩:=Go.Conc.mem_ofEvents hop;exact absurd hg (by simpa using hk0.symm)) (J9 _ _))
   rw[ow (by omega),JO,hb];simp[Cc.woken_quits sb]
 .by_cases hik:i=k
  .subst hik;rw[hb] at hi;cases hi
   have hkf:(i==0)=false:=by simp[hk0]
   cases nb with
   | zero=>have:b.status=.finished:=sb;rw[this] at hg;cases hg
   | succ nb =>
    rcases sb with h|⟨_,b',hstp,hq⟩
    .rw[h] at hg;cases hg
    have hrunT:=runT_crowd_go (P:=P) (sl:=sl') (i:=i) hb (by rw[hkf];exact hstp (w.at d));have hnil:MemOp.ofEvents i b.frame.fn b.frame.place #[]=#[]:=by rw[ofEvents_eq];simp
    refine Fb.step (hst.trans hrunT) (Qw (na+nb+sumTo i q) (by omega) (a:=a) (b:=b') (q:=q) (B:=B) (X:=X) (na:=na) (nb:=nb) (pc:=pc) (s:=s) (r:=r) (tm:=tm) rfl (fH.own (.inr rfl) b b' b' _ _ _ #[]) ?_ (Cc.pF (by simp[fH.size])) hcd hbd hh hod hlv U8 hq (by rw[hnil];simpa using mid) (by rw[hnil];simpa using sh) hB);rw[ow hk0,JO,ha];simp[woken_running Q9]
  .have hlt:i<k:=by have:=(fT.1 hi).1;have:=fH.size;omega
   obtain⟨m,g',es,hm,hsum,hrunT,Y4⟩:=Cc.Qs fH hp hlt hi hg;refine Fb.step (hst.trans (hrunT (w.at d) sl')) (Qw (na+nb+sumTo k (upd q i m)) (by omega) (a:=a) (b:=b) (q:=upd q i m) (B:=B) (X:=X) (na:=na) (nb:=nb) (pc:=pc) (s:=s) (r:=r) (tm:=tm) rfl (Y4 (w.at d)) ?_ ?_ hcd hbd hh hod hlv U8 sb (mid.mute (by omega) (by omega) hm) (Cc.SY sh fun op hop=>by obtain⟨e,he,rfl⟩:=Go.Conc.mem_ofEvents hop;exact touch_mute (hm e he)) hB)
   .rw[ow (by omega),JO,ha];simp[woken_running Q9]
   .rw[ow (by omega),JO,hb];simp[Cc.woken_quits sb]
end
end Sr
end
end Go.Proofs.YtdbgldieilgnmaaGreatDoor
