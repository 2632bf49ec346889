/- J22 -/
import Derived.Test.YtdbgldieilgnmaaGreatDoorJ21
set_option linter.unusedVariables false
set_option linter.unusedSimpArgs false
set_option maxHeartbeats 8000000
set_option maxRecDepth 100000
namespace Go.Proofs.YtdbgldieilgnmaaGreatDoor
open Go.Proofs.Tryz
open Go.Proofs.Tryz renaming prog → qp0
open Go.ChangeShapes Go.WideShapes Go.ChangeAt Go.RowKit
open Go renaming undef → au
section
open Go.Conc
open Cc (tp)
namespace St
open Cc (BW fI okA gW)
open Sr (dW iM bU)
theorem Qj {w w':World} {B sz n:Nat} {e:TypeId} {v:Value} {xs:List Value} (h:w.ownsRow B e sz v n xs) (hb:fI w w'):w'.ownsRow B e sz v n xs:=Gr.gJ h fun b hbl=>hb.block b (h.lt b hbl).2
theorem kF.bJ {w w':World} {B n:Nat} {v:Value} {l:List UInt8} (h:kF w B v n l) (hb:fI w w'):kF w' B v n l:=h.kept fun b hbl=>hb.block b (h.own.lt b hbl).2
theorem Vf.keep {w y y':World} {R:Plain.Pz} {v:Value} (h:Vf w R v y) (hb:fI y y'):Vf w R v y':=by
 obtain⟨⟨x,n,cp,Q,h1,h2,h3,h4⟩,h5⟩:=h;exact⟨⟨x,n,cp,Q,h1,h2,Qj h3 hb,fun e he=>Qj (h4 e he) hb⟩,h5.seq hb⟩
theorem Vf.base {w w1 y:World} {R:Plain.Pz} {v:Value} (h:Vf w1 R v y) (hb:fI w w1):Vf w R v y:=by
 obtain⟨⟨x,n,cp,Q,h1,h2,h3,h4⟩,h5⟩:=h;exact⟨⟨x,n,cp,Q,h1,h2,World.ownsRow.mono h3 hb.size,fun e he=>World.ownsRow.mono (h4 e he) hb.size⟩,hb.seq h5⟩
def zPs:Array Value:=#[.slice none 0 0,.int .i64 0,.int .i64 0,.int .i64 0]
structure Slots where
 t1:Nat
 t2:Nat
 t4:Nat
 t5:Nat
 t6:Nat
def Slots.ok (s:Slots) (n:Nat):Bool:=decide (s.t1<n/\s.t2<n/\s.t4<n/\s.t5<n/\s.t6<n/\s.t1≠s.t2/\s.t1≠s.t4/\s.t1≠s.t5/\s.t1≠s.t6/\s.t2≠s.t4/\s.t2≠s.t5/\s.t2≠s.t6/\s.t4≠s.t5/\s.t4≠s.t6/\s.t5≠s.t6)
structure Inv (s:Slots) (w:World) (T:Array Value) (src:Value) (data:List UInt8) (lim:kG) (m c l p a:Bool) (A:Act) (y:World):Prop where
 df:A.defers=[]
 size:A.tmps.size=T.size
 old:∀ j,j≠s.t1->j≠s.t2->j≠s.t4->j≠s.t5->j≠s.t6->A.tmps.getD j au=T.getD j au
 bJ:fI w y
 m1:m=true->A.tmps.getD s.t1 au=src
 c1:c=true->∃ da n dc,A.tmps.getD s.t2 au=.slice da n dc/\kF y w.heap.size (.slice da n dc) n data
 l1:l=true->A.tmps.getD s.t4 au=nV lim
 p1:p=true->Vf w (Plain.jA data lim) (A.tmps.getD s.t5 au) y
 a1:a=true->∃ q,A.tmps.getD s.t6 au=pv q/\y.heap[q]? = some (.cells zPs 30)/\w.heap.size<=q
section
variable {s:Slots} {w:World} {T:Array Value} {src:Value} {data:List UInt8} {lim:kG} {m c l p a:Bool} {A:Act} {y y':World}
theorem Inv.ahC (h:Inv s w T src data lim m c l p a A y) (hb:fI y y'):Inv s w T src data lim m c l p a A y' :=
 ⟨h.df,h.size,h.old,h.bJ.seq hb,h.m1,fun hc=>by
  obtain⟨da,n,dc,h1,h2⟩:=h.c1 hc;exact⟨da,n,dc,h1,kF.bJ h2 hb⟩,h.l1,fun hp=>Vf.keep (h.p1 hp) hb,fun ha=>by
  obtain⟨q,h1,h2,h3⟩:=h.a1 ha;exact⟨q,h1,(hb.block q (fT.1 h2).1).trans h2,h3⟩⟩
theorem rT {A:Act} {t:Nat} {v:Value} (h:t<A.tmps.size):(A.put (some t) v).tmps.getD t au=v:=gq h
theorem nk {A:Act} {t j:Nat} {v:Value} (h:j≠t):(A.put (some t) v).tmps.getD j au=A.tmps.getD j au:=getD_set_ne (Ao h)
theorem Inv.fill (h:Inv s w T src data lim m c l p a A y) (hb:fI y y') (hs:s.ok T.size=true) (t:Nat) (v:Value) (m' c' l' p' a':Bool) (h1:m'=true->(t=s.t1/\v=src)\/(m=true/\t≠s.t1)) (h2:c'=true->(t=s.t2/\∃ da n dc,v=.slice da n dc/\kF y' w.heap.size (.slice da n dc) n data)\/(c=true/\t≠s.t2)) (h3:l'=true->(t=s.t4/\v=nV lim)\/(l=true/\t≠s.t4)) (h4:p'=true->(t=s.t5/\Vf w (Plain.jA data lim) v y')\/(p=true/\t≠s.t5)) (h5:a'=true->(t=s.t6/\∃ q,v=pv q/\y'.heap[q]? = some (.cells zPs 30)/\w.heap.size<=q)\/(a=true/\t≠s.t6)) (ht:t=s.t1\/t=s.t2\/t=s.t4\/t=s.t5\/t=s.t6):Inv s w T src data lim m' c' l' p' a' (A.put (some t) v) y':=by
 have hk:=h.ahC hb;unfold Slots.ok at hs;have hs:=of_decide_eq_true hs;obtain⟨b1,b2,b4,b5,b6,_⟩:=hs;have hlt:t<A.tmps.size:=by rw[h.size];rcases ht with rfl|rfl|rfl|rfl|rfl <;> assumption
 refine⟨h.df,by show(A.tmps.setIfInBounds t v).size=_;rw[qb5,h.size],fun j j1 j2 j4 j5 j6=>?_,hk.bJ,fun hm=>?_,fun hc=>?_,fun hl=>?_,fun hp=>?_,fun ha=>?_⟩
 ·have:j≠t:=by rcases ht with rfl|rfl|rfl|rfl|rfl <;> assumption
  rw[nk this];exact h.old j j1 j2 j4 j5 j6
 ·rcases h1 hm with⟨rfl,rfl⟩|⟨h,hne⟩
  ·exact rT hlt
  ·rw[nk (Ao hne)];exact hk.m1 h
 ·rcases h2 hc with⟨rfl,da,n,dc,rfl,ho⟩|⟨h,hne⟩
  ·exact⟨da,n,dc,rT hlt,ho⟩
  ·rw[nk (Ao hne)];exact hk.c1 h
 ·rcases h3 hl with⟨rfl,rfl⟩|⟨h,hne⟩
  ·exact rT hlt
  ·rw[nk (Ao hne)];exact hk.l1 h
 ·rcases h4 hp with⟨rfl,ho⟩|⟨h,hne⟩
  ·rw[rT hlt];exact ho
  ·rw[nk (Ao hne)];exact hk.p1 h
 ·rcases h5 ha with⟨rfl,q,rfl,ho⟩|⟨h,hne⟩
  ·exact⟨q,rT hlt,ho⟩
  ·rw[nk (Ao hne)];exact hk.a1 h
end
def ab4:List (Array Bool×List Nat):=[(#[true,true,true,true,true,false],[5]),(#[true,true,true,false,true,false],[3]),(#[true,true,true,true,false,false],[4]),(#[true,false,true,false,true,false],[1]),(#[true,true,false,false,true,false],[2]),(#[true,true,true,false,false,false],[3,4]),(#[false,false,true,false,true,false],[0]),(#[true,false,false,false,true,false],[1,2]),(#[true,false,true,false,false,false],[1,4]),(#[true,true,false,false,false,false],[2,4]),(#[false,false,false,false,true,false],[0,2]),(#[false,false,true,false,false,false],[0,4]),(#[true,false,false,false,false,false],[1,2,4]),(#[false,false,false,false,false,false],[0,2,4])]
structure ae5 (ops:Array Oper) (s:Slots) (xs lp:Nat):Prop where
 o0:∃ o,ops[0]? = some o/\o.guard=none/\o.dst=some s.t1/\o.op=.move (.tmp xs)
 o1:∃ o ats,ops[1]? = some o/\o.guard=none/\o.dst=some s.t2/\o.op=.call {callee:=.value (.func 20),args:=#[.tmp s.t1],argTypes:=ats}
 o2:∃ o,ops[2]? = some o/\o.guard=none/\o.dst=some s.t4/\o.op=.load 24 (.tmp lp)
 o3:∃ o ats,ops[3]? = some o/\o.guard=none/\o.dst=some s.t5/\o.op=.call {callee:=.value (.func 16),args:=#[.tmp s.t2,.tmp s.t4],argTypes:=ats}
 o4:∃ o,ops[4]? = some o/\o.guard=none/\o.dst=some s.t6/\o.op=.alloc 30
 o5:∃ o,ops[5]? = some o/\o.guard=none/\o.dst=none/\o.op=.store 30 (.tmp s.t6) (.tmp s.t5)
 size:ops.size=6
 rdy:(ab4.all fun d=>Region.ready .any ops d.1==d.2)=true
structure CpF (s:Slots) (w:World) (T:Array Value) (R:Plain.Pz) (A:Act) (y:World):Prop where
 df:A.defers=[]
 size:A.tmps.size=T.size
 old:∀ j,j≠s.t1->j≠s.t2->j≠s.t4->j≠s.t5->j≠s.t6->A.tmps.getD j au=T.getD j au
 bJ:fI w y
 ex:∃ (q:Nat) (x:Option Addr) (n cp:Nat) (Q:List EU),A.tmps.getD s.t6 au=pv q/\y.heap[q]? = some (.cells #[.slice x n cp,.int .i64 R.code,.int .i64 R.off,.int .i64 R.held] 30)/\w.heap.size<=q/\Q.map (·.1)=R.ents/\y.ownsRow w.heap.size 42 11 (.slice x n cp) n (Q.flatMap fG)/\∀ e∈Q,iw y w.heap.size e
theorem sH {o:Oper} (h:o.guard=none) (f:Nat->Option Bool):Region.wanted o f=true:=by unfold Region.wanted;rw[h]
section
variable {ε:Nat×Nat} {Φ:Goroutine->World->Prop} {b:Frame} {k:List Item} {cs:List Frame} {w:World} {ops:Array Oper} {s:Slots} {xs lp:Nat} {T:Array Value} {data:List UInt8} {lim:kG}
theorem Tw {id:Nat} (hO:ae5 ops s xs lp) (hs:s.ok T.size=true) (hx:xs≠s.t1/\xs≠s.t2/\xs≠s.t4/\xs≠s.t5/\xs≠s.t6) (hlp:lp≠s.t1/\lp≠s.t2/\lp≠s.t4/\lp≠s.t5/\lp≠s.t6) (hk:b.kind≠.early) {a0:Option Addr} {n0 c0 lb:Nat} {ev:Value} (hsrc:T.getD xs au=.slice a0 n0 c0) (hdat:Bs w a0 n0 c0 data) (hn0:n0<=140737488351232) (hlim:T.getD lp au=pv lb) (hlb:w.heap[lb]? = some (.cells #[.int .i64 lim.name,.int .i64 lim.iP] 24)) (hml:uF w) (her:eO w ev) (hpw:lV w) {D:Nat->Prop} (hcl:bU qp0 (dW ε) (fun _=>False) D #[] w) (hn:∀ A y,CpF s w T (Plain.jA data lim) A y->BW qp0 (G (b.at A k) cs) y Φ):BW qp0 (G (b.at ⟨T,[]⟩ (.code (.region id ops true)::k)) cs) w Φ:=by
 have hs':=of_decide_eq_true hs;obtain⟨b1,b2,b4,b5,b6,e12,e14,e15,e16,e24,e25,e26,e45,e46,e56⟩:=hs';have hr:∀ l r,(l,r)∈ab4->Region.ready .any ops l=r:=fun l r h=>by
  have:=hO.rdy;rw[Ej] at this;simpa using this _ h
 generalize hsv:(Value.slice a0 n0 c0)=src at hsrc;have fin:∀ A y,CpF s w T (Plain.jA data lim) A y->gW qp0 .any ops b k cs Φ 0 #[true,true,true,true,true,true] A y:=fun A y h=>BW.rend (hn A y h)
 have s0:∀ m c l p a A y rest,Inv s w T src data lim m c l p a A y->(∀ A' y',Inv s w T src data lim true c l p a A' y'->BW qp0 (G (b.at A' (.inRegion ops rest::k)) cs) y' Φ)->BW qp0 (G (b.at A (.inRegion ops (0::rest)::k)) cs) y Φ:=by
  intro m c l p a A y rest hI K;obtain⟨o,h0,hg,hd,hop⟩:=hO.o0;have hv:A.eval (.tmp xs)=src:=(hI.old xs hx.1 hx.2.1 hx.2.2.1 hx.2.2.2.1 hx.2.2.2.2).trans hsrc;refine BW.move h0 (sH hg _) hk (.inl hop) ?_;rw[hd,hv];exact K _ _ (hI.fill (.refl y) hs s.t1 src true c l p a (fun _=>.inl ⟨rfl,rfl⟩) (fun h=>.inr ⟨h,e12⟩) (fun h=>.inr ⟨h,e14⟩) (fun h=>.inr ⟨h,e15⟩) (fun h=>.inr ⟨h,e16⟩) (.inl rfl))
 have s1:∀ m c l p a,m=true->∀ A y rest,Inv s w T src data lim m c l p a A y->(∀ A' y',Inv s w T src data lim m true l p a A' y'->BW qp0 (G (b.at A' (.inRegion ops rest::k)) cs) y' Φ)->BW qp0 (G (b.at A (.inRegion ops (1::rest)::k)) cs) y Φ:=by
  intro m c l p a hm A y rest hI K;obtain⟨o,ats,h0,hg,hd,hop⟩:=hO.o1;have hv:A.eval (.tmp s.t1)=.slice a0 n0 c0:=(hI.m1 hm).trans hsv.symm;refine BW.call (Rr:=fun v w'=>∃ da n dc,v=.slice da n dc/\kF w' y.heap.size (.slice da n dc) n data/\fI y w') h0 (sH hg _) hk hop okA (by kernel_rfl) func20 rfl (vs:=#[.slice a0 n0 c0]) (by simp[hv]) (fun τ d=>(Ku a0 n0 c0 data (tp y τ d) ((hI.bJ.tp τ d).keeps.bs hdat) (by omega)).mono fun e w' hq=>by
   obtain⟨x,n,c,rfl,h1,h2⟩:=hq;exact⟨_,rfl,x,n,c,rfl,h1,.pR h2⟩) (fun v w' τ d hq=>by
   obtain⟨x,n,c,rfl,h1,h2⟩:=hq;exact⟨x,n,c,rfl,h1.kept fun _ _=>rfl,h2.tp τ d⟩) fun v y2 hv2=>?_
  obtain⟨da,n,dc,rfl,ho,hb⟩:=hv2;rw[hd];exact K _ _ (hI.fill hb hs s.t2 _ m true l p a (fun h=>.inr ⟨h,Ao e12⟩) (fun _=>.inl ⟨rfl,da,n,dc,rfl,⟨World.ownsRow.mono ho.own hI.bJ.size,ho.cl⟩⟩) (fun h=>.inr ⟨h,e24⟩) (fun h=>.inr ⟨h,e25⟩) (fun h=>.inr ⟨h,e26⟩) (.inr (.inl rfl)))
 have s2:∀ m c l p a A y rest,Inv s w T src data lim m c l p a A y->(∀ A' y',Inv s w T src data lim m c true p a A' y'->BW qp0 (G (b.at A' (.inRegion ops rest::k)) cs) y' Φ)->BW qp0 (G (b.at A (.inRegion ops (2::rest)::k)) cs) y Φ:=by
  intro m c l p a A y rest hI K;obtain⟨o,h0,hg,hd,hop⟩:=hO.o2;have hv:A.eval (.tmp lp)=.pointer (some ⟨lb,0,none⟩):=(hI.old lp hlp.1 hlp.2.1 hlp.2.2.1 hlp.2.2.2.1 hlp.2.2.2.2).trans hlim;have hrow:y.heap[lb]? = _:=(hI.bJ.block lb (fT.1 hlb).1).trans hlb;refine Cc.BW.TV (nV lim) (Rw:=fun z=>∃ τ d,z=tp y τ d) LG h0 hk (by rw[hop];rfl) (fun τ d=>?_) (fun w' τ d hr=>⟨τ,d,by obtain⟨_,_,rfl⟩:=hr;rfl⟩) fun y2 hr=>?_
  ·refine cK hg _ _ hop lb 0 hv #[.int .i64 lim.name,.int .i64 lim.iP] _ (fun j v hj=>?_) underlying24 rfl (by kernel_rfl) ⟨rfl,rfl,τ,d,rfl⟩;rw[lU,cell_of_row _ _ _ _ _ _ (show(tp y τ d).heap[lb]? = _ from hrow),<-qaV];exact hj
  obtain⟨τ,d,rfl⟩:=hr;rw[hd];exact K _ _ (hI.fill ((fI.refl y).tp τ d) hs s.t4 _ m c true p a (fun h=>.inr ⟨h,Ao e14⟩) (fun h=>.inr ⟨h,Ao e24⟩) (fun _=>.inl ⟨rfl,rfl⟩) (fun h=>.inr ⟨h,e45⟩) (fun h=>.inr ⟨h,e46⟩) (.inr (.inr (.inl rfl))))
 have s3:∀ m c l p a,c=true->l=true->∀ A y rest,Inv s w T src data lim m c l p a A y->(∀ A' y',Inv s w T src data lim m c l true a A' y'->BW qp0 (G (b.at A' (.inRegion ops rest::k)) cs) y' Φ)->BW qp0 (G (b.at A (.inRegion ops (3::rest)::k)) cs) y Φ:=by
  intro m c l p a hc hl A y rest hI K;obtain⟨o,ats,h0,hg,hd,hop⟩:=hO.o3;obtain⟨da,n,dc,hv,ho⟩:=hI.c1 hc;have hln:=Bh ho.own;have hl0:=hdat.len;obtain⟨D',hst,_⟩:=CQ hcl hI.bJ ho.cl (fun g hg=>(ho.own.lt g hg).1);refine JX (ε:=ε) (lim:=lim) (data:=data) h0 (sH hg _) hk hop hv (hI.l1 hl) (OY ho.own) (by omega) (xP hI.bJ hml) (tH hI.bJ her) (xW hI.bJ hpw) hst fun v y2 hp=>?_
  rw[hd];exact K _ _ (hI.fill hp.bJ hs s.t5 _ m c l true a (fun h=>.inr ⟨h,Ao e15⟩) (fun h=>.inr ⟨h,Ao e25⟩) (fun h=>.inr ⟨h,Ao e45⟩) (fun _=>.inl ⟨rfl,Vf.base hp hI.bJ⟩) (fun h=>.inr ⟨h,e56⟩) (.inr (.inr (.inr (.inl rfl)))))
 have s4:∀ m c l p a A y rest,Inv s w T src data lim m c l p a A y->(∀ A' y',Inv s w T src data lim m c l p true A' y'->BW qp0 (G (b.at A' (.inRegion ops rest::k)) cs) y' Φ)->BW qp0 (G (b.at A (.inRegion ops (4::rest)::k)) cs) y Φ:=by
  intro m c l p a A y rest hI K;obtain⟨o,h0,hg,hd,hop⟩:=hO.o4;refine Cc.BW.TV (pv y.heap.size) (Rw:=fun z=>fI y z/\z.heap[y.heap.size]? = some (.cells zPs 30)) LG h0 hk (by rw[hop];rfl) (fun τ d=>bV hg _ hop _ Ee ⟨rfl,rfl,.pR (τ:=τ) (d:=d) ((Below.refl _ (tp y τ d)).alloc (aY _) _),heap_alloc_new _ _⟩) (fun w' τ d hr=>⟨hr.1.tp τ d,hr.2⟩) fun y2 hr=>?_
  rw[hd];exact K _ _ (hI.fill hr.1 hs s.t6 _ m c l p true (fun h=>.inr ⟨h,Ao e16⟩) (fun h=>.inr ⟨h,Ao e26⟩) (fun h=>.inr ⟨h,Ao e46⟩) (fun h=>.inr ⟨h,Ao e56⟩) (fun _=>.inl ⟨rfl,_,rfl,hr.2,hI.bJ.size⟩) (.inr (.inr (.inr (.inr rfl)))))
 have s5:∀ A y rest,Inv s w T src data lim true true true true true A y->(∀ A' y',CpF s w T (Plain.jA data lim) A' y'->BW qp0 (G (b.at A' (.inRegion ops rest::k)) cs) y' Φ)->BW qp0 (G (b.at A (.inRegion ops (5::rest)::k)) cs) y Φ:=by
  intro A y rest hI K;obtain⟨o,h0,hg,hd,hop⟩:=hO.o5;obtain⟨q,hq1,hq2,hq3⟩:=hI.a1 rfl;obtain⟨⟨x,n,cp,Q,hv,hQ,hown,hdt⟩,_⟩:=hI.p1 rfl;have hqv:A.eval (.tmp s.t6)=.pointer (some ⟨q,0,none⟩):=hq1;refine Cc.BW.TV au (Rw:=fun z=>RL q y z/\z.heap[q]? = some (.cells #[.slice x n cp,.int .i64 (Plain.jA data lim).code,.int .i64 (Plain.jA data lim).off,.int .i64 (Plain.jA data lim).held] 30)) LG h0 hk (by rw[hop];rfl) (fun τ d=>wpList_store_row hg _ _ _ hop q hqv _ hv _ 30 hq2 rfl (by kernel_rfl) (by intro u hu;simp at hu;rcases hu with rfl|rfl|rfl|rfl <;> rfl) ⟨rfl,rfl,⟨rfl,rfl,by rw[size_setRow];exact aY _,fun b hb hne=>setRow_other _ _ _ _ hne⟩,setRow_heap _ _ _ _ _ _ hq2⟩) (fun w' τ d hr=>⟨hr.1.tp τ d,hr.2⟩) fun z hz=>?_
  obtain⟨hb,hrow⟩:=hz;have keep:∀ {B sz m:Nat} {e:TypeId} {u:Value} {xs:List Value},y.ownsRow B e sz u m xs->e≠30->z.ownsRow B e sz u m xs:=fun ho hne=>Gr.gJ ho fun b hb2=>hb.block b (ho.lt b hb2).2 fun e1=>Gr.aN ho hq2 hne (by rw[hb2];exact congrArg some e1)
  rw[hd];refine K _ _ ⟨hI.df,hI.size,hI.old,⟨hb.os.trans hI.bJ.os,rfl,hb.out.trans hI.bJ.output,tT hI.bJ.size hb.size,fun g hg2=>?_⟩,q,x,n,cp,Q,hq1,hrow,hq3,hQ,keep hown (by decide),fun e he=>keep (hdt e he) (by decide)⟩;have hg2:g<w.heap.size:=hg2;have hyw:w.heap.size<=y.heap.size:=hI.bJ.size;exact(hb.block g (by omega) (by omega)).trans (hI.bJ.block g hg2)
 have YS:∀ A y,Inv s w T src data lim true true true true true A y->gW qp0 .any ops b k cs Φ 1 #[true,true,true,true,true,false] A y:=by
  intro A y hI;have hrr:=hr #[true,true,true,true,true,false] [5] (by decide);refine⟨fun h=>(by rw[hrr] at h;cases h),fun i hi rest K=>?_⟩;rw[hrr] at hi;simp only[rD,xS,or_false] at hi;subst hi
  ·exact s5 A y rest hI fun A' y' hF=>K A' y' (fin A' y' hF)
 have Qf:∀ A y,Inv s w T src data lim true true true false true A y->gW qp0 .any ops b k cs Φ 2 #[true,true,true,false,true,false] A y:=by
  intro A y hI;have hrr:=hr #[true,true,true,false,true,false] [3] (by decide);refine⟨fun h=>(by rw[hrr] at h;cases h),fun i hi rest K=>?_⟩;rw[hrr] at hi;simp only[rD,xS,or_false] at hi;subst hi
  ·exact s3 true true true false true rfl rfl A y rest hI fun A' y' hI'=>K A' y' (YS A' y' hI')
 have adi:∀ A y,Inv s w T src data lim true true true true false A y->gW qp0 .any ops b k cs Φ 2 #[true,true,true,true,false,false] A y:=by
  intro A y hI;have hrr:=hr #[true,true,true,true,false,false] [4] (by decide);refine⟨fun h=>(by rw[hrr] at h;cases h),fun i hi rest K=>?_⟩;rw[hrr] at hi;simp only[rD,xS,or_false] at hi;subst hi
  ·exact s4 true true true true false A y rest hI fun A' y' hI'=>K A' y' (YS A' y' hI')
 have NW:∀ A y,Inv s w T src data lim true false true false true A y->gW qp0 .any ops b k cs Φ 3 #[true,false,true,false,true,false] A y:=by
  intro A y hI;have hrr:=hr #[true,false,true,false,true,false] [1] (by decide);refine⟨fun h=>(by rw[hrr] at h;cases h),fun i hi rest K=>?_⟩;rw[hrr] at hi;simp only[rD,xS,or_false] at hi;subst hi
  ·exact s1 true false true false true rfl A y rest hI fun A' y' hI'=>K A' y' (Qf A' y' hI')
 have Vo:∀ A y,Inv s w T src data lim true true false false true A y->gW qp0 .any ops b k cs Φ 3 #[true,true,false,false,true,false] A y:=by
  intro A y hI;have hrr:=hr #[true,true,false,false,true,false] [2] (by decide);refine⟨fun h=>(by rw[hrr] at h;cases h),fun i hi rest K=>?_⟩;rw[hrr] at hi;simp only[rD,xS,or_false] at hi;subst hi
  ·exact s2 true true false false true A y rest hI fun A' y' hI'=>K A' y' (Qf A' y' hI')
 have Yr:∀ A y,Inv s w T src data lim true true true false false A y->gW qp0 .any ops b k cs Φ 3 #[true,true,true,false,false,false] A y:=by
  intro A y hI;have hrr:=hr #[true,true,true,false,false,false] [3,4] (by decide);refine⟨fun h=>(by rw[hrr] at h;cases h),fun i hi rest K=>?_⟩;rw[hrr] at hi;simp only[rD,xS,or_false] at hi;rcases hi with rfl|rfl
  ·exact s3 true true true false false rfl rfl A y rest hI fun A' y' hI'=>K A' y' (adi A' y' hI')
  ·exact s4 true true true false false A y rest hI fun A' y' hI'=>K A' y' (Qf A' y' hI')
 have YE:∀ A y,Inv s w T src data lim false false true false true A y->gW qp0 .any ops b k cs Φ 4 #[false,false,true,false,true,false] A y:=by
  intro A y hI;have hrr:=hr #[false,false,true,false,true,false] [0] (by decide);refine⟨fun h=>(by rw[hrr] at h;cases h),fun i hi rest K=>?_⟩;rw[hrr] at hi;simp only[rD,xS,or_false] at hi;subst hi
  ·exact s0 false false true false true A y rest hI fun A' y' hI'=>K A' y' (NW A' y' hI')
 have Wo:∀ A y,Inv s w T src data lim true false false false true A y->gW qp0 .any ops b k cs Φ 4 #[true,false,false,false,true,false] A y:=by
  intro A y hI;have hrr:=hr #[true,false,false,false,true,false] [1,2] (by decide);refine⟨fun h=>(by rw[hrr] at h;cases h),fun i hi rest K=>?_⟩;rw[hrr] at hi;simp only[rD,xS,or_false] at hi;rcases hi with rfl|rfl
  ·exact s1 true false false false true rfl A y rest hI fun A' y' hI'=>K A' y' (Vo A' y' hI')
  ·exact s2 true false false false true A y rest hI fun A' y' hI'=>K A' y' (NW A' y' hI')
 have Vl:∀ A y,Inv s w T src data lim true false true false false A y->gW qp0 .any ops b k cs Φ 4 #[true,false,true,false,false,false] A y:=by
  intro A y hI;have hrr:=hr #[true,false,true,false,false,false] [1,4] (by decide);refine⟨fun h=>(by rw[hrr] at h;cases h),fun i hi rest K=>?_⟩;rw[hrr] at hi;simp only[rD,xS,or_false] at hi;rcases hi with rfl|rfl
  ·exact s1 true false true false false rfl A y rest hI fun A' y' hI'=>K A' y' (Yr A' y' hI')
  ·exact s4 true false true false false A y rest hI fun A' y' hI'=>K A' y' (NW A' y' hI')
 have ad2:∀ A y,Inv s w T src data lim true true false false false A y->gW qp0 .any ops b k cs Φ 4 #[true,true,false,false,false,false] A y:=by
  intro A y hI;have hrr:=hr #[true,true,false,false,false,false] [2,4] (by decide);refine⟨fun h=>(by rw[hrr] at h;cases h),fun i hi rest K=>?_⟩;rw[hrr] at hi;simp only[rD,xS,or_false] at hi;rcases hi with rfl|rfl
  ·exact s2 true true false false false A y rest hI fun A' y' hI'=>K A' y' (Yr A' y' hI')
  ·exact s4 true true false false false A y rest hI fun A' y' hI'=>K A' y' (Vo A' y' hI')
 have adU:∀ A y,Inv s w T src data lim false false false false true A y->gW qp0 .any ops b k cs Φ 5 #[false,false,false,false,true,false] A y:=by
  intro A y hI;have hrr:=hr #[false,false,false,false,true,false] [0,2] (by decide);refine⟨fun h=>(by rw[hrr] at h;cases h),fun i hi rest K=>?_⟩;rw[hrr] at hi;simp only[rD,xS,or_false] at hi;rcases hi with rfl|rfl
  ·exact s0 false false false false true A y rest hI fun A' y' hI'=>K A' y' (Wo A' y' hI')
  ·exact s2 false false false false true A y rest hI fun A' y' hI'=>K A' y' (YE A' y' hI')
 have aco:∀ A y,Inv s w T src data lim false false true false false A y->gW qp0 .any ops b k cs Φ 5 #[false,false,true,false,false,false] A y:=by
  intro A y hI;have hrr:=hr #[false,false,true,false,false,false] [0,4] (by decide);refine⟨fun h=>(by rw[hrr] at h;cases h),fun i hi rest K=>?_⟩;rw[hrr] at hi;simp only[rD,xS,or_false] at hi;rcases hi with rfl|rfl
  ·exact s0 false false true false false A y rest hI fun A' y' hI'=>K A' y' (Vl A' y' hI')
  ·exact s4 false false true false false A y rest hI fun A' y' hI'=>K A' y' (YE A' y' hI')
 have acR:∀ A y,Inv s w T src data lim true false false false false A y->gW qp0 .any ops b k cs Φ 5 #[true,false,false,false,false,false] A y:=by
  intro A y hI;have hrr:=hr #[true,false,false,false,false,false] [1,2,4] (by decide);refine⟨fun h=>(by rw[hrr] at h;cases h),fun i hi rest K=>?_⟩;rw[hrr] at hi;simp only[rD,xS,or_false] at hi;rcases hi with rfl|rfl|rfl
  ·exact s1 true false false false false rfl A y rest hI fun A' y' hI'=>K A' y' (ad2 A' y' hI')
  ·exact s2 true false false false false A y rest hI fun A' y' hI'=>K A' y' (Vl A' y' hI')
  ·exact s4 true false false false false A y rest hI fun A' y' hI'=>K A' y' (Wo A' y' hI')
 have ach:∀ A y,Inv s w T src data lim false false false false false A y->gW qp0 .any ops b k cs Φ 6 #[false,false,false,false,false,false] A y:=by
  intro A y hI;have hrr:=hr #[false,false,false,false,false,false] [0,2,4] (by decide);refine⟨fun h=>(by rw[hrr] at h;cases h),fun i hi rest K=>?_⟩;rw[hrr] at hi;simp only[rD,xS,or_false] at hi;rcases hi with rfl|rfl|rfl
  ·exact s0 false false false false false A y rest hI fun A' y' hI'=>K A' y' (acR A' y' hI')
  ·exact s2 false false false false false A y rest hI fun A' y' hI'=>K A' y' (aco A' y' hI')
  ·exact s4 false false false false false A y rest hI fun A' y' hI'=>K A' y' (adU A' y' hI')
 refine Cc.BW.draw (by kernel_rfl) ?_;rw[hO.size];exact ach ⟨T,[]⟩ w ⟨rfl,rfl,fun _ _ _ _ _ _=>rfl,.refl w,fun h=>(by cases h),fun h=>(by cases h),fun h=>(by cases h),fun h=>(by cases h),fun h=>(by cases h)⟩
end
end St
end
theorem Ah {w:World} {b o:Nat} {x:EU} (h:w.rangeAt b o (fG x)) (j:Nat) (hj:j<11):w.cell? ⟨b,o+j,none⟩=(sS x)[j]?:=by
 have hs:(sS x).size=11:=rfl;have e:(fG x)[j]? = (sS x)[j]?:=by simp[fG]
 have e2:(sS x)[j]? = some ((sS x)[j]'(by rw[hs];exact hj)):=mJ _;rw[h j _ (e.trans e2),e2]
namespace Plain
theorem RH {d:List UInt8} {lim:kG} (h:eT lim=true):jA d lim=sgo d lim 0 bW.zero:=by unfold jA sgo;rw[if_pos h]
theorem Yw {d:List UInt8} {lim:kG} (h:eT lim=false):jA d lim=Qy:=by unfold jA;rw[h];rfl
structure abS (n:Nat) (lim:kG) (R:Pz):Prop where
 h78:R.code=78->R.ents=[]/\R.off=0/\R.held=0
 mod:R.off%512=0
 off:R.off<=n
 aeW:0<=R.held
 held:R.code≠78->R.held<=2*lim.iP+2*lim.name
 lim:R.code≠78->1<=lim.name/\lim.name<=4096/\0<=lim.iP/\lim.iP<=1048576
 sum:jk R.ents<=n
 kind:∀ e∈R.ents,1<=e.kind/\e.kind<=5
 fin:R.code≠78->R.code=0->jk R.ents+1024<=R.off
theorem JE (d:List UInt8) (lim:kG):abS d.length lim (jA d lim):=by
 cases h:eT lim with
 | false =>
  rw[Yw h];exact⟨fun _=>⟨rfl,rfl,rfl⟩,rfl,M8 _,U4 _,fun h=>absurd rfl h,fun h=>absurd rfl h,by simp[Qy,jk],fun e he=>(by cases he),fun h=>absurd rfl h⟩
 | true =>
  have hl:=h;unfold eT at hl;have hl:=of_decide_eq_true hl;have hb:=O5 d lim h 0 bW.zero (M8 _) (G8 h) rfl;have ho:=ZT d lim 0 bW.zero (M8 _);rw[RH h];exact⟨fun h=>absurd h ho.2.2.1,hb.1,ho.2.1,hb.2.1,fun _=>hb.2.2.1,fun _=>hl,by have:=hb.2.2.2.1;omega,hb.2.2.2.2.1,fun _ h=>by have:=hb.2.2.2.2.2 h;omega⟩
end Plain
namespace St
noncomputable def vX:Code:=Tryz.f7.body.getD .skip
noncomputable def Ou:Code:=match vX with|.seq _ (.seq _ (.seq _ c))=>c|_=>.skip
def adx (a:Option Addr) (n c:Nat) (lb q:Nat) (f:Nat->Value):Array Value:=#[.slice a n c,f 1,f 2,pv lb,f 4,pv q,f 6,f 7,f 8,f 9,f 10,f 11,f 12,f 13,f 14,f 15,f 16,f 17,f 18,f 19,f 20,f 21,f 22,f 23,f 24,f 25,f 26,f 27,f 28,f 29,f 30,f 31,f 32,f 33,f 34,f 35,f 36,f 37,f 38,f 39,f 40,f 41,f 42,f 43,f 44,f 45,f 46,f 47,f 48,f 49,f 50,f 51,f 52,f 53,f 54,f 55,f 56,f 57,f 58,f 59,f 60,f 61,f 62,f 63,f 64,f 65,f 66,f 67,f 68,f 69,f 70,f 71,f 72,f 73,f 74,f 75,f 76,f 77,f 78,f 79,f 80,f 81,f 82,f 83,f 84,f 85,f 86,f 87,f 88,f 89,f 90,f 91,f 92,f 93,f 94,f 95,f 96,f 97,f 98,f 99,f 100,f 101,f 102,f 103,f 104,f 105,f 106,f 107,f 108,f 109,f 110,f 111,f 112]
theorem Vq (a:Option Addr) (n c lb q:Nat) (lim:kG) (R:Plain.Pz) (hR:Plain.abS n lim R) (hn:n<=140737488351232) (x:Option Addr) (m cp:Nat) (Q:List EU) (f:Nat->Value) (w:World) (hlb:w.heap[lb]? = some (.cells #[.int .i64 lim.name,.int .i64 lim.iP] 24)) (hq:w.heap[q]? = some (.cells #[.slice x m cp,.int .i64 R.code,.int .i64 R.off,.int .i64 R.held] 30)) (hQ:Q.map (·.1)=R.ents) (hE:Qg w x m cp Q) :
  Ou.wp qp0 (bodyPost qp0 Tryz.f7 fun e w'=>∃ v,e=.returned v/\v=.bool true/\Below w.heap.size w w') {tmps:=adx a n c lb q f,defers:=[]} w:=by
 have l0:w.cell? ⟨lb,0,none⟩=some (.int .i64 lim.name):=cell_of_row _ _ _ _ _ _ hlb;have l1:w.cell? ⟨lb,1,none⟩=some (.int .i64 lim.iP):=cell_of_row _ _ _ _ _ _ hlb;have q0:w.cell? ⟨q,0,none⟩=some (.slice x m cp):=cell_of_row _ _ _ _ _ _ hq;have q1:w.cell? ⟨q,1,none⟩=some (.int .i64 R.code):=cell_of_row _ _ _ _ _ _ hq;have q2:w.cell? ⟨q,2,none⟩=some (.int .i64 R.off):=cell_of_row _ _ _ _ _ _ hq;have q3:w.cell? ⟨q,3,none⟩=some (.int .i64 R.held):=cell_of_row _ _ _ _ _ _ hq;have hml:Q.length=m:=hE.len;unfold adx pv;simp only[Ou,vX,Tryz.f7,Option.getD_some];by_cases h78:R.code=78
 ·obtain⟨e1,e2,e3⟩:=hR.h78 h78;have hm0:m=0:=by rw[<-hml,<-V7 (f:=(·.1)),hQ,e1];rfl
  rw[h78] at q1;rw[e2] at q2;rw[e3] at q3;subst hm0;clear l0 l1 hlb hq;go_wp2
  go_ret;exact⟨_,rfl,rfl,Below.refl _ _⟩
 ·have c78:(R.code==78)=false:=by rw[beq_eq_false_iff_ne];exact h78
  have hmod:=hR.mod;have hoff:=hR.off;have hh0:=hR.aeW;have hh1:=hR.held h78;obtain⟨b1,b2,b3,b4⟩:=hR.lim h78;have t1:¬ ((R.off:Int)<0):=by omega
  have t2:((R.off:Int).tmod 512==0)=true:=by rw[beq_iff_eq,Int.tmod_eq_emod_of_nonneg (by omega)];omega
  have t3:¬ ((n:Int)<R.off):=by omega
  have t4:¬ (R.held<0):=by omega
  have w1:IntKind.i64.wrap (2*lim.iP)=2*lim.iP:=by rw[IntKind.wrap_i64];omega
  have w2:IntKind.i64.wrap (2*lim.name)=2*lim.name:=by rw[IntKind.wrap_i64];omega
  have w3:IntKind.i64.wrap (2*lim.iP+2*lim.name)=2*lim.iP+2*lim.name:=by rw[IntKind.wrap_i64];omega
  have t5:¬ (2*lim.iP+2*lim.name<R.held):=by omega
  have hsum:=hR.sum;have hkind:=hR.kind;have hfin:=hR.fin h78;have HE:=ah hE;have HK:=ah hkind;have HL:=ah hml;clear hlb hq hE hkind hml;have hstep:∀ k,k<m->∃ s:EU,Q.getD k Zk=s/\1<=s.1.kind/\s.1.kind<=5/\Plain.jk (R.ents.take (k+1))=Plain.jk (R.ents.take k)+(512+s.1.data.length)/\Plain.jk (R.ents.take (k+1))<=Plain.jk R.ents:=by
   intro k hk;have hkq:k<Q.length:=by rw[HL.out];exact hk
   refine⟨Q.getD k Zk,rfl,?_⟩;have hg:Q.getD k Zk=Q[k]:=by simp[List.getD,kM hkq]
   rw[hg,<-hQ];have hmem:Q[k].1∈R.ents:=by rw[<-hQ];exact ZW.2 ⟨_,VE hkq,rfl⟩
   refine⟨(HK.out _ hmem).1,(HK.out _ hmem).2,?_,?_⟩
   ·have hkl:k<(Q.map (·.1)).length:=by simpa using hkq
    rw[Nh hkl];simp[Plain.jk]
   ·unfold Plain.jk;have:=qbh (k+1) (Q.map (·.1))
    conv=>rhs;rw[<-this]
    rw[qbH,List.sum_append];omega
  have HST:=ah hstep;clear hstep;go_wp2
  go_loopw [6,7] (fun s i wr=>∃ k:Nat,k<=m/\i=.int .i64 k/\s=.int .i64 (Plain.jk (R.ents.take k):Nat)/\wr=w) (fun _ i _=>m-(intOf i).toNat)
  case atStart=>exact⟨0,M8 _,rfl,rfl,rfl⟩
  case round =>
   obtain⟨k,hk,rfl,rfl,rfl⟩:=hrel;by_cases hlt:k<m
   ·obtain⟨s,hsd,k1,k5,hs1,hs2⟩:=HST.out k hlt;obtain⟨b,o,rfl,h1⟩:=HE.out.at k hlt;have hd:=HE.out.acD k hlt;rw[hsd] at h1 hd;have hdl:=hd.len;have g0:=Ah h1 0 (by decide);have g10:=Ah h1 10 (by decide);have hmx:m<=9223372036854775807:=tT HE.out.cap HE.out.max;have hss:((Plain.jk (R.ents.take k):Nat):Int)+(512+(s.2.2.1:Int))=((Plain.jk (R.ents.take (k+1)):Nat):Int):=by rw[hs1,hdl];omega
    have hbd:((Plain.jk (R.ents.take k):Nat):Int)+(512+(s.2.2.1:Int))<=140737488351232:=by rw[hss];omega
    have hw1:IntKind.i64.wrap (512+(s.2.2.1:Int))=512+s.2.2.1:=by rw[IntKind.wrap_i64];omega
    have hw2:IntKind.i64.wrap (((Plain.jk (R.ents.take k):Nat):Int)+(512+(s.2.2.1:Int)))=((Plain.jk (R.ents.take (k+1)):Nat):Int):=by rw[hss,IntKind.wrap_i64];omega
    have HSS:=ah hss;clear hss;have hk1:¬ (s.1.kind<1):=by omega
    have hk5:¬ (5<s.1.kind):=by omega
    have g0':wr.cell? ⟨b,o+k*11,none⟩=some (.int .i64 s.1.kind):=g0;have ahK:wr.cell? ⟨b,o+k*11+10,none⟩=some (.slice s.2.1 s.2.2.1 s.2.2.2):=g10;clear g0 g10;go_wp2
    rw[HSS.out];refine⟨⟨k+1,by omega,rfl,rfl,trivial⟩,?_⟩;show m-((k:Int)+1).toNat<m-((k:Int)).toNat;omega
   ·obtain rfl:k=m:=by omega
    have htk:R.ents.take k=R.ents:=by rw[MU];rw[<-hQ,V7,HL.out];exact aY _
    rw[htk];have hs1:((Plain.jk R.ents:Nat):Int)<=(n:Int):=by omega
    have hw1:IntKind.i64.wrap ((Plain.jk R.ents:Int)+1024)=(Plain.jk R.ents:Int)+1024:=by rw[IntKind.wrap_i64];omega
    by_cases hc0:R.code=0
    ·have hs2:(Plain.jk R.ents:Int)+1024<=(R.off:Int):=by have:=hfin hc0;omega
     have hcb:(R.code != 0)=false:=by simp[hc0]
     generalize ((Plain.jk R.ents:Nat):Int)=E at *
     go_wp2
     go_ret;exact⟨_,rfl,rfl,Below.refl _ _⟩
    ·have hcb:(R.code != 0)=true:=by simp[hc0]
     generalize ((Plain.jk R.ents:Nat):Int)=E at *
     go_wp2
     go_ret;exact⟨_,rfl,rfl,Below.refl _ _⟩
end St
section
open Go.Conc
theorem adN {w:World} {B n c:Nat} {a:Option Addr} {S:List EU} (h:w.ownsRow B 42 11 (.slice a n c) n (S.flatMap fG)) (hd:∀ e∈S,iw w B e):Qg w a n c S:=⟨rP h,fun e he=>rP (hd e he)⟩
section
variable {P:Program} {o:Oper} {a:Act} {ops:Array Oper} {rest:List Oper} {w:World} {Q:Exit->Act->World->Prop}
end
end
section
open Go.Conc
open Cc (tp)
namespace St
open Cc (BW fI okA u7)
open Sr (dW iM bU)
theorem af3 {t:Array Value} (h:t.size=113):t=#[t.getD 0 au,t.getD 1 au,t.getD 2 au,t.getD 3 au,t.getD 4 au,t.getD 5 au,t.getD 6 au,t.getD 7 au,t.getD 8 au,t.getD 9 au,t.getD 10 au,t.getD 11 au,t.getD 12 au,t.getD 13 au,t.getD 14 au,t.getD 15 au,t.getD 16 au,t.getD 17 au,t.getD 18 au,t.getD 19 au,t.getD 20 au,t.getD 21 au,t.getD 22 au,t.getD 23 au,t.getD 24 au,t.getD 25 au,t.getD 26 au,t.getD 27 au,t.getD 28 au,t.getD 29 au,t.getD 30 au,t.getD 31 au,t.getD 32 au,t.getD 33 au,t.getD 34 au,t.getD 35 au,t.getD 36 au,t.getD 37 au,t.getD 38 au,t.getD 39 au,t.getD 40 au,t.getD 41 au,t.getD 42 au,t.getD 43 au,t.getD 44 au,t.getD 45 au,t.getD 46 au,t.getD 47 au,t.getD 48 au,t.getD 49 au,t.getD 50 au,t.getD 51 au,t.getD 52 au,t.getD 53 au,t.getD 54 au,t.getD 55 au,t.getD 56 au,t.getD 57 au,t.getD 58 au,t.getD 59 au,t.getD 60 au,t.getD 61 au,t.getD 62 au,t.getD 63 au,t.getD 64 au,t.getD 65 au,t.getD 66 au,t.getD 67 au,t.getD 68 au,t.getD 69 au,t.getD 70 au,t.getD 71 au,t.getD 72 au,t.getD 73 au,t.getD 74 au,t.getD 75 au,t.getD 76 au,t.getD 77 au,t.getD 78 au,t.getD 79 au,t.getD 80 au,t.getD 81 au,t.getD 82 au,t.getD 83 au,t.getD 84 au,t.getD 85 au,t.getD 86 au,t.getD 87 au,t.getD 88 au,t.getD 89 au,t.getD 90 au,t.getD 91 au,t.getD 92 au,t.getD 93 au,t.getD 94 au,t.getD 95 au,t.getD 96 au,t.getD 97 au,t.getD 98 au,t.getD 99 au,t.getD 100 au,t.getD 101 au,t.getD 102 au,t.getD 103 au,t.getD 104 au,t.getD 105 au,t.getD 106 au,t.getD 107 au,t.getD 108 au,t.getD 109 au,t.getD 110 au,t.getD 111 au,t.getD 112 au]:=by
 have e:t=((List.range 113).map (fun i=>t.getD i au)).toArray:=by
  apply TS
  ·simp[h]
  ·intro i hi1 hi2;simp[hi1]
 exact e
theorem Z8 (a:Option Addr) (n c:Nat) (lim:kG):Frame.enter qp0 7 #[.slice a n c,nV lim] .normal=(base 7).at ⟨#[.slice a n c,nV lim]++Array.replicate 111 au,[]⟩ [.code vX]:=by
 have hbody:Tryz.f7.body=some vX:=by simp only[vX,Tryz.f7,Option.getD_some]
 have hnt:Tryz.f7.ntmps=113:=by kernel_rfl
 simp[Frame.enter,Frame.at,base,func7,hbody,hnt]
theorem aai (a:Option Addr) (n c:Nat) (lim:kG):(#[.slice a n c,nV lim]:Array Value)++Array.replicate 111 au=#[.slice a n c,nV lim,au,au,au,au,au,au,au,au,au,au,au,au,au,au,au,au,au,au,au,au,au,au,au,au,au,au,au,au,au,au,au,au,au,au,au,au,au,au,au,au,au,au,au,au,au,au,au,au,au,au,au,au,au,au,au,au,au,au,au,au,au,au,au,au,au,au,au,au,au,au,au,au,au,au,au,au,au,au,au,au,au,au,au,au,au,au,au,au,au,au,au,au,au,au,au,au,au,au,au,au,au,au,au,au,au,au,au,au,au,au,au]:=by kernel_rfl
section
variable {ε:Nat×Nat}
def slB:Slots:=⟨10,11,12,13,5⟩
theorem Uw (a:Option Addr) (n c:Nat) (l:List UInt8) (lim:kG) (w:World) (ev:Value) (hb:Bs w a n c l) (hc0:c<=140737488351232) (hml:uF w) (her:eO w ev) (hpw:lV w) (hbr:EZ w) {D:Nat->Prop} (hcl:bU qp0 (dW ε) (fun _=>False) D #[] w) :
  BW qp0 (G (Frame.enter qp0 7 #[.slice a n c,nV lim] .normal) []) w (Cc.Ends qp0 fun v w'=>v=.bool true/\fI w w'):=by
 have hn:n<=140737488351232:=tT hb.cap hc0;rw[Z8,aai];simp only[vX,Tryz.f7,Option.getD_some];refine BW.seq ?_;unfold nV;apply Cc.BW.Jj (hP:=LG) (hk:=by decide) (hok:=by kernel_rfl) (Rr:=fun x y=>x=⟨#[.slice a n c,nV lim,au,pv w.heap.size,.bool false,au,au,au,au,au,au,au,au,au,au,au,au,au,au,au,au,au,au,au,au,au,au,au,au,au,au,au,au,au,au,au,au,au,au,au,au,au,au,au,au,au,au,au,au,au,au,au,au,au,au,au,au,au,au,au,au,au,au,au,au,au,au,au,au,au,au,au,au,au,au,au,au,au,au,au,au,au,au,au,au,au,au,au,au,au,au,au,au,au,au,au,au,au,au,au,au,au,au,au,au,au,au,au,au,au,au,au,au],[]⟩/\∃ τ d,y=tp (w.alloc (.cells #[.int .i64 lim.name,.int .i64 lim.iP] 24)) τ d)
 ·intro τ d;go_wp2
  exact⟨⟨rfl,rfl⟩,τ,d,rfl⟩
 ·rintro x y τ d ⟨h1,jH,d',rfl⟩;exact⟨h1,τ,d,rfl⟩
 rintro a1 w1 ⟨rfl,τ,d,rfl⟩;have hb1:fI w (tp (w.alloc (.cells #[.int .i64 lim.name,.int .i64 lim.iP] 24)) τ d):=fI.tp (.of ((Below.refl _ _).alloc (aY _) _)) τ d;have hr1:(tp (w.alloc (.cells #[.int .i64 lim.name,.int .i64 lim.iP] 24)) τ d).heap[w.heap.size]? = some (.cells #[.int .i64 lim.name,.int .i64 lim.iP] 24):=heap_alloc_new w _;generalize tp (w.alloc (.cells #[.int .i64 lim.name,.int .i64 lim.iP] 24)) τ d=w1 at hb1 hr1;refine BW.seq ?_;refine BW.seq ?_;refine BW.region ?_;simp only[rJ,oH,List.length_nil,Nat.reduceAdd,lU,List.range'];refine Vb (ε:=ε) rfl rfl (by decide) rfl (xP hb1 hml) (tH hb1 her) (xW hb1 hpw) (QA hb1 hbr) (o7 hcl hb1 fun b hb=>hb.elim) fun w2 hb2=>?_
 walk_nrm;refine BW.jU rfl rfl (by decide) (.bool false) (fun w₁=>by constructor <;> kernel_rfl) ?_;walk_nrm;refine BW.rend ?_;refine BW.cond (t:=false) rfl ?_;simp only[jI,if_false];refine BW.skip ?_;refine BW.seq ?_;have TH:fI w w2:=hb1.seq hb2;refine Tw (ε:=ε) (s:=slB) (xs:=0) (lp:=3) (data:=l) (lim:=lim) (lb:=w.heap.size) ⟨⟨_,rfl,rfl,rfl,rfl⟩,⟨_,_,rfl,rfl,rfl,rfl⟩,⟨_,rfl,rfl,rfl,rfl⟩,⟨_,_,rfl,rfl,rfl,rfl⟩,⟨_,rfl,rfl,rfl,rfl⟩,⟨_,rfl,rfl,rfl,rfl⟩,rfl,by kernel_rfl⟩ (show slB.ok 113=true by decide) (by decide) (by decide) (by decide) rfl (TH.keeps.bs hb) hn rfl ((hb2.block _ (fT.1 hr1).1).trans hr1) (xP TH hml) (tH TH her) (xW TH hpw) (o7 hcl TH fun b hb=>hb.elim) fun A y hF=>?_
 obtain⟨tm,df⟩:=A;obtain rfl:df=[]:=hF.df;obtain⟨q,x,m,cp,Q,hq1,hrow,hq3,hQ,hown,hdt⟩:=hF.ex;have hsz:tm.size=113:=hF.size;have h0:tm.getD 0 au=.slice a n c:=hF.old 0 (by decide) (by decide) (by decide) (by decide) (by decide);have h3:tm.getD 3 au=pv w.heap.size:=hF.old 3 (by decide) (by decide) (by decide) (by decide) (by decide);have hq1:tm.getD 5 au=pv q:=hq1;have e:tm=adx a n c w.heap.size q (fun j=>tm.getD j au):=by
  have:=af3 hsz;rw[h0,h3,hq1] at this;exact this
 rw[e];generalize (fun j=>tm.getD j au)=f;have hby:fI w y:=TH.seq hF.bJ;have hlt:w.heap.size<w1.heap.size:=(fT.1 hr1).1;have hlb:y.heap[w.heap.size]? = some (.cells #[.int .i64 lim.name,.int .i64 lim.iP] 24):=(hF.bJ.block _ (CW hlt hb2.size)).trans ((hb2.block _ hlt).trans hr1);have HR:=fun τ d=>Vq a n c w.heap.size q lim (Plain.jA l lim) (by rw[<-hb.len];exact Plain.JE l lim) hn x m cp Q f (tp y τ d) hlb hrow hQ ((adN hown hdt).keep ((fI.refl y).tp τ d).keeps)
 simp only[Ou,vX,Tryz.f7,Option.getD_some] at HR;exact BW.last okA func7 (by kernel_rfl) (by kernel_rfl) (Post:=fun v w'=>v=.bool true/\fI w w') (fun τ d=>Code.wp_mono (fun e x y hq=>u7 (fun v w' hv=>⟨hv.1,hby.seq (.pR hv.2)⟩) hq) (HR τ d)) (fun v w' τ d hq=>⟨hq.1,hq.2.tp τ d⟩)
end
end St
end
end Go.Proofs.YtdbgldieilgnmaaGreatDoor
