/- J09 -/
import Derived.Test.YtdbgldieilgnmaaGreatDoorJ08
import Derived.Conc.Company
import Derived.Conc.AppendEvents3
set_option linter.unusedVariables false
set_option linter.unusedSimpArgs false
set_option maxHeartbeats 8000000
set_option maxRecDepth 100000
namespace Go.Proofs.YtdbgldieilgnmaaGreatDoor
open Go.ChangeShapes Go.WideShapes Go.ChangeAt Go.RowKit
section
open Go.Conc
open Go.ConcN (sumTo upd sumTo_upd upd_ne upd_same)
open Cc (tp Ai jV Shut Comm heard_new lI)
namespace Sr
section
variable (P:Program)(L:FuncId->Bool)(K:Op->Bool)(S:Nat->Prop)(c n0:Nat)(w0:World)(R0:Nat->Nat->Prop)(k:Nat)
structure Open(gs:Array Goroutine)(a b:Goroutine)(w:World)(t:Trace)(q:Nat->Nat)(B:Nat)(X:Nat->Prop)(R:Nat->Nat->Prop)(fr:Frame)(cs:List Frame)(wg:World)(aB:Frame)(χ:List Frame)(vs acc:List Value)(s r:Nat)(tm:Bool):Prop where
 fH:jV P t gs k q
 ha:gs[0]? = some a
 hb:gs[k]? = some b
 hc:w.heap[c]? = some (.chan 0 #[] false s r tm)
 rg:RG P L K R fr cs wg aB χ w
 own:Own2 L S c n0 w0 R0 R X w
 lv:LV R L vs acc
 mid:Mid (XL S X) (YL S c R) k B t
 hB:w.heap.size<=B
end
section
variable {P:Program}{L:FuncId->Bool}{K:Op->Bool}{S:Nat->Prop}{c n0:Nat}{w0:World}{R0:Nat->Nat->Prop}{k:Nat}{z:Value}{Sh:Value->Prop}{Fin:List Value->(Nat->Prop)->Goroutine->World->Prop}{fU:List Value->World->Prop}
variable {gs:Array Goroutine}{a b:Goroutine}{w:World}{sl:Option (Nat×Nat)}{t:Trace}{q:Nat->Nat}{B m ρ:Nat}{X:Nat->Prop}{R:Nat->Nat->Prop}{vs acc:List Value}{s r:Nat}{tm:Bool}{fr aB:Frame}{cs χ:List Frame}{wg:World}
theorem Open.k0(h:Open P L K S c n0 w0 R0 k gs a b w t q B X R fr cs wg aB χ vs acc s r tm):k≠0:=by have:=h.fH.pos;omega
theorem Open.at(h:Open P L K S c n0 w0 R0 k gs a b w t q B X R fr cs wg aB χ vs acc s r tm)(d:Nat):Open P L K S c n0 w0 R0 k gs a b (w.at d) t q B X R fr cs wg aB χ vs acc s r tm :=⟨h.fH,h.ha,h.hb,h.hc,h.rg.at d,h.own.at d,h.lv,h.mid,h.hB⟩
theorem Open.main(h:Open P L K S c n0 w0 R0 k gs a b w t q B X R fr cs wg aB χ vs acc s r tm){a':Goroutine}{w':World}{es:Array Event}{X':Nat->Prop}(hown:iw S X w w' es X')(hwk:(w'.heap[c]? = some (.chan 0 #[] false s r tm))->woken P a a' w' b=b):Open P L K S c n0 w0 R0 k ((gs.map (woken P a a' w')).setIfInBounds 0 a') a' b w' (t++MemOp.ofEvents 0 a.frame.fn a.frame.place es) q (max B w'.heap.size) X' R fr cs wg aB χ vs acc s r tm:=by
 have hm2:=h.own.main (wg:=wg) h.rg.bnd hown;have hc':=hm2.2.trans h.hc;refine⟨h.fH.own (.inl rfl) a a' a' w' _ _ es,Cc.pE (k:=k) (by simp[h.fH.size]),?_,hc',h.rg.main h.own hown,hm2.1,h.lv,(h.mid.mono (Z5 _ _) (XL.mono hown.sub) fun _ _ h=>h).Zb hm2.1.Vv h.k0 (n:=w'.heap.size) (J9 _ _) hown.ev,J9 _ _⟩;have:=h.k0;rw[ow (by omega),JO,h.hb];simp[hwk hc']
theorem Open.slip(h:Open P L K S c n0 w0 R0 k gs a b w t q B X R fr cs wg aB χ vs acc s r tm){i:Nat}{g:Goroutine}(h0:0<i)(hik:i≠k)(hi:gs[i]? = some g)(hr:g.status=.running)(hwa:∀ g',woken P g g' w a=a)(hwb:∀ g',woken P g g' w b=b):∃ q' gs' t' ,sumTo k q'+1=sumTo k q/\(∃ ops,t'=t++ops/\∀ sl,runT P (crowd gs w sl) i=(.next (crowd gs' w sl),ops))/\Open P L K S c n0 w0 R0 k gs' a b w t' q' B X R fr cs wg aB χ vs acc s r tm:=by
 have hlt:i<k:=by have:=(fT.1 hi).1;have:=h.fH.size;omega
 obtain⟨m,g',es,hm,hsum,hrunT,Y4⟩:=Cc.Qs h.fH h0 hlt hi hr;refine⟨upd q i m,_,_,hsum,⟨_,rfl,fun sl=>hrunT w sl⟩,Y4 w,?_,?_,h.hc,h.rg,h.own,h.lv,h.mid.mute (by omega) hik hm,h.hB⟩
 .rw[ow (by omega),JO,h.ha];simp[hwa]
 .rw[ow hik,JO,h.hb];simp[hwb]
theorem afh{Φ:Frame->List Frame->World->Prop}(hK:vB P L K)(hL:∀ f,L f=true->fK P f)(hWk:∀ (fr:Frame)(cs:List Frame)(wg:World),(∀ τ d,Φ fr cs (tp wg τ d))->∀ (gs:Array Goroutine)(a:Goroutine)(w:World)(sl:Option (Nat×Nat))(t:Trace)(q:Nat->Nat)(B:Nat)(X:Nat->Prop)(R:Nat->Nat->Prop)(aB:Frame)(χ:List Frame)(s r:Nat)(tm:Bool)(ρ:Nat),
   Open P L K S c n0 w0 R0 k gs a (G aB χ) w t q B X R fr cs wg aB χ vs acc s r tm->MS P S c z Sh Fin m acc X a w ρ->∃ m1 ops,runT P (crowd gs w sl) k=(.next m1,ops)/\Fb P L S c n0 w0 R0 Fin fU m1 (t++ops))
  (h:GW P L S Φ fr cs wg):∀ (M:Nat)(gs:Array Goroutine)(a:Goroutine)(w:World)(sl:Option (Nat×Nat))(t:Trace)(q:Nat->Nat)(B:Nat)(X:Nat->Prop)(R:Nat->Nat->Prop)(aB:Frame)(χ:List Frame)(s r:Nat)(tm:Bool)(ρ:Nat),
   ρ+sumTo k q=M->Open P L K S c n0 w0 R0 k gs a (G aB χ) w t q B X R fr cs wg aB χ vs acc s r tm->MS P S c z Sh Fin m acc X a w ρ->Fb P L S c n0 w0 R0 Fin fU (crowd gs w sl) t:=by
 have step:∀ (fr:Frame)(cs:List Frame)(wg:World),
   (∀ (gs:Array Goroutine)(a:Goroutine)(w:World)(sl:Option (Nat×Nat))(t:Trace)(q:Nat->Nat)(B:Nat)(X:Nat->Prop)(R:Nat->Nat->Prop)(aB:Frame)(χ:List Frame)(s r:Nat)(tm:Bool)(ρ:Nat),
    Open P L K S c n0 w0 R0 k gs a (G aB χ) w t q B X R fr cs wg aB χ vs acc s r tm->MS P S c z Sh Fin m acc X a w ρ->∃ m1 ops,runT P (crowd gs w sl) k=(.next m1,ops)/\Fb P L S c n0 w0 R0 Fin fU m1 (t++ops)) ->
   ∀ (M:Nat)(gs:Array Goroutine)(a:Goroutine)(w:World)(sl:Option (Nat×Nat))(t:Trace)(q:Nat->Nat)(B:Nat)(X:Nat->Prop)(R:Nat->Nat->Prop)(aB:Frame)(χ:List Frame)(s r:Nat)(tm:Bool)(ρ:Nat),
    ρ+sumTo k q=M->Open P L K S c n0 w0 R0 k gs a (G aB χ) w t q B X R fr cs wg aB χ vs acc s r tm->MS P S c z Sh Fin m acc X a w ρ->Fb P L S c n0 w0 R0 Fin fU (crowd gs w sl) t:=by
  intro fr cs wg af2 M
  induction M using Nat.strongRecOn with
  | _ M Qw =>
  intro gs a w sl t q B X R aB χ s r tm ρ hM ho sa;have hk0:=ho.k0;have haw:=ho.fH.awake ho.ha ho.hb (sa.status.elim (fun x=>.inl x.1) fun x=>.inr (.inl x.1)) (.inl rfl);obtain⟨i,g,d,sl',hi,hg,hst⟩:=crowd_pick (P:=P) (w:=w) (sl:=sl) haw ⟨k,_,ho.hb,rfl⟩;have U8:=sa.rely (Rel.at S X w d);have hod:=ho.at d;rcases UZ i with rfl|hp
  .rw[ho.ha] at hi;cases hi
   rcases U8 with⟨n,rfl,hG⟩|⟨_,g',rfl,_⟩
   .rcases hG.cases with hstop|⟨n',rfl,hr,hstep⟩
    .
     have hs:=hstop (w.at d) (Rel.refl S X _);obtain⟨es,hcomm,hes⟩:=hs.comm;have hpn:partners (gs.setIfInBounds 0 ph) c true=[]:=ho.fH.partners_nil ho.ha ho.hb (fun h=>absurd rfl h) fun _=>offersAt_of_not_blocked (by simp[G]) c true
     have hrunT:=crowd_waits (sl:=sl') ho.ha (show stepG P (0==0) a (w.at d)=_ from hcomm) (fun cc hcc=>by simp at hcc;subst hcc;exact ways_recv_none hod.hc hpn);refine Fb.step (hst.trans hrunT) (Qw (0+sumTo k q) (by omega) _ (parked (core a) #[rcase c z] (.recv true)) (w.at d) sl' _ q B X R aB χ s r tm 0 rfl ⟨?_,Cc.pE ho.fH.size,?_,hod.hc,hod.rg,hod.own,ho.lv,ho.mid.Zb ho.own.Vv hk0 (n:=w.heap.size) ho.hB hes,ho.hB⟩ (.inr ⟨rfl,a,rfl,fun ω θ=>hstop ω θ⟩))
     .have:=ho.fH.comm (c:=c) (i:=0) (.inl rfl) (gs':=gs.setIfInBounds 0 (parked (core a) #[rcase c z] (.recv true))) (by simp) (fun j h0 _=>by rw[ow (by omega)]) (fn:=a.frame.fn) (pos:=a.frame.place) (es:=es) (u:=#[]) (by simp);simpa using this
     .rw[ow (by omega)];exact ho.hb
    .obtain⟨a',w',es,X',hgo,hown,hG'⟩:=hstep (w.at d) (Rel.refl S X _);have hrunT:=runT_crowd_go (P:=P) (sl:=sl') (i:=0) ho.ha (show stepG P (0==0) a (w.at d)=_ from hgo);exact Fb.step (hst.trans hrunT) (Qw (n'+1+sumTo k q) (by omega) _ a' w' sl' _ q _ X' R aB χ s r tm (n'+1) rfl (hod.main hown fun _=>woken_running rfl) (.inl ⟨n',rfl,hG'⟩))
   .cases hg
  .by_cases hik:i=k
   .subst hik;rw[ho.hb] at hi;cases hi
    obtain⟨m1,ops,h1,h2⟩:=af2 gs a (w.at d) sl' t q B X R aB χ s r tm ρ hod U8;exact Fb.step (hst.trans h1) h2
   .obtain⟨q',gs',t',hsum,⟨ops,rfl,hrunT⟩,ho'⟩:=hod.slip hp hik hi hg (fun g'=>U8.woken hod.hc) (fun g'=>woken_running rfl);exact Fb.step (hst.trans (hrunT sl')) (Qw (ρ+sumTo k q') (by omega) gs' a (w.at d) sl' _ q' B X R aB χ s r tm ρ rfl ho' U8)
 induction h with
 | @stop fr cs wg h=>exact step fr cs wg (fun gs a w sl t q B X R aB χ s r tm ρ ho sa=>hWk fr cs wg h gs a w sl t q B X R aB χ s r tm ρ ho sa)
 | @step fr cs wg hn hne fr' cs' IQ es h hq ht ih =>
  refine step fr cs wg fun gs a w sl t q B X R aB χ s r tm ρ ho sa=>?_
  have hk0:=ho.k0;have hkf:(k==0)=false:=by simp[hk0]
  obtain⟨bC,dA,w',η,R',hgo,hrg,hW⟩:=Sk hK hL ho.rg ho.own hn hne (h (fun j=>w.tape (w.drawn+j)) 0) (hq (fun j=>w.tape (w.drawn+j)) 0);have hrunT:=runT_crowd_go (P:=P) (sl:=sl) (i:=k) ho.hb (by rw[hkf];exact hgo);refine⟨_,_,hrunT,ih (fun j=>w.tape (w.drawn+j)) 0 (ρ+sumTo k q) _ a w' sl _ q (max B w'.heap.size) X R' bC dA s r tm ρ rfl ⟨ho.fH.own (.inr rfl) _ _ _ w' _ _ η,?_,Cc.pF (by simp[ho.fH.size]),hW.chan.trans ho.hc,hrg,hW.own,ho.lv.mono hW.sup,(ho.mid.mono (Z5 _ _) (fun _ _ h=>h) (YL.mono hW.sup)).afP hW.own.Vv hk0 (n:=w'.heap.size) (J9 _ _) hW.ev,J9 _ _⟩ (sa.rely hW.rel)⟩;rw[ow hk0,JO,ho.ha];simp[sa.woken (hW.chan.trans ho.hc)]
theorem YG{c:Nat}{ν μ π:Value}:commResult #[scase c ν μ,rcaseNil π] .select 0 undef false=.tuple #[goInt 0,.bool false,π]:=by
 simp[commResult,scase,rcaseNil]
def QD(P:Program)(L:FuncId->Bool)(K:Op->Bool)(S:Nat->Prop)(c n0:Nat)(w0:World)(R0:Nat->Nat->Prop)(k:Nat)(z:Value)(Sh:Value->Prop)(Fin:List Value->(Nat->Prop)->Goroutine->World->Prop)(fU:List Value->World->Prop)(m:Nat):Prop :=∀ (vs acc:List Value)(fr:Frame)(cs:List Frame)(wg:World)(gs:Array Goroutine)(a:Goroutine)(w:World)(sl:Option (Nat×Nat))(t:Trace)(q:Nat->Nat)(B:Nat)(X:Nat->Prop)(R:Nat->Nat->Prop)(aB:Frame)(χ:List Frame)(s r:Nat)(tm:Bool)(ρ:Nat),
  Open P L K S c n0 w0 R0 k gs a (G aB χ) w t q B X R fr cs wg aB χ vs acc s r tm->MS P S c z Sh Fin m acc X a w ρ->WS P L K S c Sh fU m vs fr cs wg->Fb P L S c n0 w0 R0 Fin fU (crowd gs w sl) t
theorem aeh{R:Nat->Nat->Prop}{v μ π:Value}{y:Array CommCase}(h:CV R L #[scase c v μ,rcaseNil π] y):∃ ν D6 eY,y=#[scase c ν D6,rcaseNil eY]/\VR R L v ν/\VR R L π eY:=by
 obtain⟨hs,hv⟩:=h;have h2:y.size=2:=by simpa using hs.symm
 have e0:y[0]? = some y[0]:=mJ (by omega);have e1:y[1]? = some y[1]:=mJ (by omega);have a0:=hv 0 (scase c v μ) y[0] rfl e0;have a1:=hv 1 (rcaseNil π) y[1] rfl e1;have hy:y=#[y[0],y[1]]:=by
  apply TS
  .simp[h2]
  .intro i h1 h3;have:i=0\/i=1:=by omega
   rcases this with rfl|rfl <;> rfl
 rw[hy];generalize y[0]=p at a0;generalize y[1]=o at a1;obtain⟨pc,ps,pz⟩:=p;obtain⟨oc,os,oz⟩:=o;obtain⟨b1,b2,b3⟩:=a0;obtain⟨d1,d2,d3⟩:=a1;simp only[scase,rcaseNil] at b1 b2 b3 d1 d2 d3
 cases b1
 cases d1
 cases d2
 cases b2 with
 | some hvv=>exact⟨_,_,_,rfl,hvv,d3⟩
theorem Open.meet(h:Open P L K S c n0 w0 R0 k gs a b w t q B X R fr cs wg aB χ vs acc s r tm){v ν π eY:Value}(hv:VR R L v ν)(hz:VR R L π eY){gs':Array Goroutine}{a':Goroutine}(hs:gs'.size=gs.size)(hg:∀ j,0<j->j<k->gs'[j]? = gs[j]?)(h0:gs'[0]? = some a')(hk:gs'[k]? = some (G (aB.finish (.tuple #[goInt 0,.bool false,eY])) χ)){i:Nat}(hi:i=0\/i=k){fn:FuncId}{pos:String}{es:Array Event}{u:Trace}(hu:∀ op∈u,Comm k c op)(hmid:Mid (XL S X) (YL S c R) k B (t++MemOp.ofEvents i fn pos es)):Open P L K S c n0 w0 R0 k gs' a' (G (aB.finish (.tuple #[goInt 0,.bool false,eY])) χ) (w.setChan c 0 #[] false (s+1) (r+1) tm) (t++(MemOp.ofEvents i fn pos es++u)) q B X R (fr.finish (.tuple #[goInt 0,.bool false,π])) cs wg (aB.finish (.tuple #[goInt 0,.bool false,eY])) χ (vs++[v]) (acc++[ν]) (s+1) (r+1) tm:=by
 have hcB:c<B:=Cc.adA h.hc h.hB;have hrg:=h.rg.set h.own h.hc 0 #[] false (s+1) (r+1) tm
 refine⟨h.fH.comm hi hs hg hu,h0,hk,heap_put h.hc,⟨hrg.gb,hrg.bnd,hrg.heap,hrg.sl.finish (VR.q9 (AV.three (.int _ _) (.bool _) hz))⟩,h.own.set 0 #[] false (s+1) (r+1) tm,h.lv.append hv,?_,by rw[size_setChan];exact h.hB⟩;rw[<-qbF];exact hmid.adg h.own.Vv h.k0 hcB hu
theorem Qh(U2:∀ R v ν,VR R L v ν->Sh v->Sh ν)(hnext:QD P L K S c n0 w0 R0 k z Sh Fin fU m):∀ (M:Nat)(gs:Array Goroutine)(a:Goroutine)(w:World)(sl:Option (Nat×Nat))(t:Trace)(q:Nat->Nat)(B:Nat)(X:Nat->Prop)(n:Nat)(v ν μ π eY:Value),
  n+sumTo k q=M->Open P L K S c n0 w0 R0 k gs a (parked (G aB χ) #[scase c ν μ,rcaseNil eY] .select) w t q B X R fr cs wg aB χ vs acc s r tm->MG P S (gZ P S c z Sh Fin (m+1) acc) n X a w->VR R L v ν->VR R L π eY->Sh v ->
  WS P L K S c Sh fU m (vs++[v]) (fr.finish (.tuple #[goInt 0,.bool false,π])) cs wg->Fb P L S c n0 w0 R0 Fin fU (crowd gs w sl) t:=by
 intro M
 induction M using Nat.strongRecOn with
 | _ M Qw =>
 intro gs a w sl t q B X n v ν μ π eY hM ho sa hv hz hS hws;have hk0:=ho.k0;have har:a.status=.running:=sa.running (fun _ _ _=>gZ.running);have haw:=ho.fH.awake ho.ha ho.hb (.inl har) (.inr (.inl rfl));obtain⟨i,g,d,sl',hi,hg,hst⟩:=crowd_pick (P:=P) (w:=w) (sl:=sl) haw ⟨0,_,ho.ha,har⟩;have U8:=sa.rely (Rel.at S X w d);have hod:=ho.at d;have hwk:∀ {x y:Goroutine}{w':World},(w'.heap[c]? = some (.chan 0 #[] false s r tm))->woken P x y w' (parked (G aB χ) #[scase c ν μ,rcaseNil eY] .select)=parked (G aB χ) #[scase c ν μ,rcaseNil eY] .select:=by
  intro x y w' hc;unfold woken;split
  .refine ND fun cc hcc c' e=>?_
   simp only[qch,rD,xS,or_false] at hcc;rcases hcc with rfl|rfl
   .simp only[scase] at e
    cases e
    exact⟨_,_,_,_,_,hc⟩
   .simp only[rcaseNil] at e
    cases e
  .rfl
 rcases UZ i with rfl|hp
 .rw[ho.ha] at hi;cases hi
  rcases U8.cases with hstop|⟨n',rfl,hr,hstep⟩
  .have hs:=hstop (w.at d) (Rel.refl S X _);obtain⟨es,hcomm,hes⟩:=hs.comm;have hof:offersAt (parked (G aB χ) #[scase c ν μ,rcaseNil eY] .select) c true=[0]:=Kq (k:=0) (v:=ν) (z:=μ) rfl (fun j cc hj hcc=>by
    have:j<2:=(fT.1 hcc).1;have:j=1:=by omega
    subst this;simp at hcc;subst hcc;simp[rcaseNil])
   have hpn:partners (gs.setIfInBounds 0 ph) c true=[(k,0)]:=ho.fH.partners_one (.inl ⟨rfl,rfl⟩) ho.hb hof;have hrunT:=CF (sl:=sl') (k:=0) ho.ha (show stepG P (0==0) a (w.at d)=_ from hcomm) hod.hc hk0 ho.hb rfl hpn;rw[finishComm_recv] at hrunT;have hfin:(G aB χ).finishComm P #[scase c ν μ,rcaseNil eY] .select (0:Nat) undef false=G (aB.finish (.tuple #[goInt 0,.bool false,eY])) χ:=by
    show({G aB χ with frame:=(G aB χ).frame.finish (commResult #[scase c ν μ,rcaseNil eY] .select 0 undef false),status:=.running,offers:=none}:Goroutine)=_;rw[YG];rfl
   rw[hfin] at hrunT;have hmid:=ho.mid.Zb (fn:=a.frame.fn) (pos:=a.frame.place) ho.own.Vv hk0 (n:=w.heap.size) ho.hB hes;have hopen:=hod.meet hv hz (gs':=(gs.setIfInBounds k (G (aB.finish (.tuple #[goInt 0,.bool false,eY])) χ)).setIfInBounds 0 (Go.Conc.served (core a) (recvd true ν true))) (by simp) (fun j h0 hk=>by rw[ow (by omega),ow (by omega)])
    (Cc.pE (k:=k) (by simp[ho.fH.size])) (by rw[ow (by omega)];exact Cc.pF ho.fH.size) (.inl rfl) (Gi (c:=c) (k:=k) (s:=s) (r:=r) (cap:=0) (.inr ⟨rfl,rfl⟩) (G aB χ).frame.fn (core a).frame.fn (G aB χ).frame.fn (core a).frame.fn (G aB χ).frame.place (core a).frame.place (G aB χ).frame.place (core a).frame.place) hmid
   have hrm:=hs.2.2 ν (U2 R v ν hv hS);obtain⟨Γ,hn₁⟩:=(Dk ..).1 hrm;exact Fb.step (hst.trans hrunT) (hnext _ _ _ _ _ _ _ _ sl' _ _ _ _ _ _ _ _ _ _ (Γ+1) hopen (.inl ⟨Γ,rfl,hn₁.rely (Jl ho.own.cX ho.own.cS _ _ _ _ _ _ _)⟩) hws)
  .obtain⟨a',w',es,X',hgo,hown,hG'⟩:=hstep (w.at d) (Rel.refl S X _);have hrunT:=runT_crowd_go (P:=P) (sl:=sl') (i:=0) ho.ha (show stepG P (0==0) a (w.at d)=_ from hgo);exact Fb.step (hst.trans hrunT) (Qw (n'+sumTo k q) (by omega) _ a' w' sl' _ q _ X' n' v ν μ π eY rfl (hod.main hown hwk) hG' hv hz hS hws)
 .by_cases hik:i=k
  .subst hik;rw[ho.hb] at hi;cases hi
   cases hg
  .obtain⟨q',gs',t',hsum,⟨ops,rfl,hrunT⟩,ho'⟩:=hod.slip hp hik hi hg (fun g'=>woken_running har) (fun g'=>hwk hod.hc);exact Fb.step (hst.trans (hrunT sl')) (Qw (n+sumTo k q') (by omega) gs' a (w.at d) sl' _ q' B X n v ν μ π eY rfl ho' U8 hv hz hS hws)
theorem YO(hK:vB P L K)(hL:∀ f,L f=true->fK P f)(U2:∀ R v ν,VR R L v ν->Sh v->Sh ν):∀ m,QD P L K S c n0 w0 R0 k z Sh Fin fU m:=by
 intro m
 induction m with
 | zero =>
  intro vs acc fr cs wg gs a w sl t q B X R aB χ s r tm ρ ho sa hws;refine afh hK hL (fun fr cs wg hstop gs a w sl t q B X R aB χ s r tm ρ ho sa=>?_) ((gT ..).1 hws) _ gs a w sl t q B X R aB χ s r tm ρ rfl ho sa;have hk0:=ho.k0;have hkf:(k==0)=false:=by simp[hk0]
  have hst:=hstop w.tape 0;obtain⟨_,hmay,ξ,nq,hcl,hq⟩:=hst.1 R aB χ ho.rg.sl;have hgo:=hcl w s r tm ho.hc;have hrunT:=runT_crowd_go (P:=P) (sl:=sl) (i:=k) ho.hb (by rw[hkf];exact hgo);have hg2:ξ.status=.running\/ξ.status=.finished:=hq.status;have hc':(w.setChan c 0 #[] true s r tm).heap[c]? = some (.chan 0 #[] true s r tm):=heap_put ho.hc;have hrel:=Jl ho.own.cX ho.own.cS w 0 #[] true s r tm;have hcB:c<B:=Cc.adA ho.hc ho.hB;have hco:Comm k c {g:=k,fn:=aB.fn,pos:=aB.place,act:=.close c}:=⟨.inr rfl,.inr (.inr (.inr (.inr rfl)))⟩;have heq:t++MemOp.ofEvents k (G aB χ).frame.fn (G aB χ).frame.place #[⟨.obj c,false,true⟩,⟨.obj c,true,true⟩]=t++#[{g:=k,fn:=aB.fn,pos:=aB.place,act:=.access ⟨.obj c,false,true⟩}]++#[{g:=k,fn:=aB.fn,pos:=aB.place,act:=.close c}]:=by
   apply qcy;simp[ofEvents_eq,MemAct.ofEvent,G]
  have abZ:=ho.mid.adb (u:=#[{g:=k,fn:=aB.fn,pos:=aB.place,act:=.access ⟨.obj c,false,true⟩}]) (yO ho.own.Vv) hk0 (by simp) (by intro op hop b hb;simp at hop;subst hop;cases hb;exact⟨c,rfl,.inr ⟨rfl,rfl⟩⟩) (by rw[Deaf_push];rfl) (by intro op hop;simp at hop;subst hop;exact hcB);obtain⟨a',na,ha',hG⟩:∃ a' na,woken P (G aB χ) ξ (w.setChan c 0 #[] true s r tm) a=a'/\MG P S (gZ P S c z Sh Fin 0 acc) na X a' (w.setChan c 0 #[] true s r tm):=by
   rcases sa with⟨m',e,hg⟩|⟨e,g,rfl,hs⟩
   .exact⟨a,m',woken_running (hg.running (fun _ _ _=>gZ.running)),hg.rely hrel⟩
   .refine⟨{parked (core g) #[rcase c z] (.recv true) with status:=.running},0,?_,fun ω θ=>(hs ω (hrel.trans θ)).again⟩;unfold woken;rw[if_pos (by rcases hg2 with h|h <;> simp[hmay,h])];exact again_recv_closed hc'
  have hset:=heap_set ho.rg.heap ho.rg.bnd ho.own ho.hc 0 #[] true s r tm;refine⟨_,_,hrunT,Yc (wg:=tp wg w.tape 0) ho.rg.gb hst.2 _ rfl (ho.fH.own (.inr rfl) (G aB χ) ξ ξ _ _ _ _) ?_ (Cc.pF (by simp[ho.fH.size])) hc' hset.2 hset.1 (ho.own.set 0 #[] true s r tm) ho.lv hG hq (pc:=t.size+1) ?_ ?_ (by rw[size_setChan];exact ho.hB)⟩
  .rw[ow hk0,JO,ho.ha];simp[ha']
  .rw[heq];exact abZ.ab0 ho.own.Vv hk0 hcB hco
  .rw[heq];have hlast:=lI (t++#[{g:=k,fn:=aB.fn,pos:=aB.place,act:=.access ⟨.obj c,false,true⟩}]) {g:=k,fn:=aB.fn,pos:=aB.place,act:=.close c};have hheard:=heard_new (y:=({g:=k,fn:=aB.fn,pos:=aB.place,act:=.close c}:MemOp)) abZ.zw;have hsz1:∀ x:MemOp,(t++#[x]:Trace).size=t.size+1:=fun x=>by simp
   rw[hsz1] at hlast hheard;refine⟨⟨_,hlast,rfl,rfl⟩,hheard,fun i op hi _ _=>?_⟩;have:=lt_size_of_getElem? hi;simp at this ⊢;omega
 | succ m ih =>
  intro vs acc fr cs wg gs a w sl t q B X R aB χ s r tm ρ ho sa hws;refine afh hK hL (fun fr cs wg hstop gs a w sl t q B X R aB χ s r tm ρ ho sa=>?_) ((gT ..).1 hws) _ gs a w sl t q B X R aB χ s r tm ρ rfl ho sa;have hk0:=ho.k0;have hkf:(k==0)=false:=by simp[hk0]
  obtain⟨v,π,⟨hn,hne,μ,es,hsel,hqs⟩,hS,hws⟩:=hstop (fun j=>w.tape (w.drawn+j)) 0;obtain⟨bC,dA,D8,w',η,R',hcomm,hcv,hrg,hW⟩:=Ua hK hL ho.rg ho.own hn hne hsel ⟨hqs,fun _ _=>rfl⟩;obtain⟨ν,D6,eY,rfl,hv,hz⟩:=aeh hcv;have hc':=hW.chan.trans ho.hc;have Ve:stepG P (k==0) (G aB χ) w=.comm (G bC dA) #[scase c ν D6,rcaseNil eY] true .select w' η:=by rw[hkf];exact hcomm
  have hmid:Mid (XL S X) (YL S c R') k (max B w'.heap.size) (t++MemOp.ofEvents k (G aB χ).frame.fn (G aB χ).frame.place η):=(ho.mid.mono (Z5 _ _) (fun _ _ h=>h) (YL.mono hW.sup)).afP hW.own.Vv hk0 (n:=w'.heap.size) (J9 _ _) hW.ev;have hoff:∀ (j:Nat)(c'':CommCase),j≠0->(#[scase c ν D6,rcaseNil eY]:Array CommCase)[j]? = some c''->NoWays w' (gs.setIfInBounds k ph) c'':=by
   intro j c'' hj hcc;have:j<2:=(fT.1 hcc).1;have:j=1:=by omega
   subst this;simp at hcc;subst hcc;exact ways_nil none
  have hbase:∀ b,Open P L K S c n0 w0 R0 k (gs.setIfInBounds k b) a b w' (t++MemOp.ofEvents k (G aB χ).frame.fn (G aB χ).frame.place η) q (max B w'.heap.size) X R' fr cs (tp wg (fun j=>w.tape (w.drawn+j)) 0) bC dA vs acc s r tm:=by
   intro b;refine⟨?_,by rw[ow hk0];exact ho.ha,Cc.pF ho.fH.size,hc',hrg,hW.own,ho.lv.mono hW.sup,hmid,J9 _ _⟩;have:=ho.fH.comm (c:=c) (i:=k) (.inr rfl) (gs':=gs.setIfInBounds k b) (by simp) (fun j h0 _=>by rw[ow (by omega)]) (fn:=(G aB χ).frame.fn) (pos:=(G aB χ).frame.place) (es:=η) (u:=#[]) (by simp);simpa using this
  rcases sa with⟨n,rfl,hG⟩|⟨rfl,g,rfl,hs⟩
  .have har:a.status=.running:=hG.running (fun _ _ _=>gZ.running);have hpn:partners (gs.setIfInBounds k ph) c false=[]:=ho.fH.partners_nil ho.ha ho.hb (fun _=>offersAt_of_not_blocked (by rw[har];simp) c false) fun h=>absurd rfl h
   have hrunT:=crowd_waits (sl:=sl) ho.hb Ve (fun cc hcc=>by
    simp only[qch,rD,xS,or_false] at hcc;rcases hcc with rfl|rfl
    .exact ways_send_none hc' (by simp) hpn
    .exact ways_nil none)
   exact⟨_,_,hrunT,Qh U2 ih _ _ a w' sl _ q _ X n v ν D6 π eY rfl (hbase _) (hG.rely hW.rel) hv hz hS hws⟩
  .have hpn:partners (gs.setIfInBounds k ph) c false=[(0,0)]:=ho.fH.partners_one (.inr ⟨rfl,rfl⟩) ho.ha (by rw[offersAt_parked_recv,if_pos rfl]);have hrunT:=Eb (sl:=sl) (k:=0) ho.hb Ve rfl hoff hc' (Ao hk0) ho.ha hpn;rw[finishComm_recv] at hrunT;have hfin:(G bC dA).finishComm P #[scase c ν D6,rcaseNil eY] .select (0:Nat) undef false=G (bC.finish (.tuple #[goInt 0,.bool false,eY])) dA:=by
    show({G bC dA with frame:=(G bC dA).frame.finish (commResult #[scase c ν D6,rcaseNil eY] .select 0 undef false),status:=.running,offers:=none}:Goroutine)=_;rw[YG];rfl
   rw[hfin] at hrunT;have hst':=hs w' hW.rel;have hcr:jV P t gs k q:=ho.fH;have hopen:Open P L K S c n0 w0 R0 k ((gs.setIfInBounds 0 (Go.Conc.served (core g) (recvd true ν true))).setIfInBounds k (G (bC.finish (.tuple #[goInt 0,.bool false,eY])) dA)) (Go.Conc.served (core g) (recvd true ν true)) (G (bC.finish (.tuple #[goInt 0,.bool false,eY])) dA) (w'.setChan c 0 #[] false (s+1) (r+1) tm) _ q (max B w'.heap.size) X R' (fr.finish (.tuple #[goInt 0,.bool false,π])) cs (tp wg (fun j=>w.tape (w.drawn+j)) 0) (bC.finish (.tuple #[goInt 0,.bool false,eY])) dA (vs++[v]) (acc++[ν]) (s+1) (r+1) tm :=Open.meet (w:=w') (t:=t) (B:=max B w'.heap.size) (q:=q) (gs:=gs) (a:=parked (core g) #[rcase c z] (.recv true)) (b:=G aB χ) (i:=k) (es:=η) (fn:=(G aB χ).frame.fn) (pos:=(G aB χ).frame.place)
     ⟨hcr,ho.ha,ho.hb,hc',hrg,hW.own,ho.lv.mono hW.sup,ho.mid.mono (Z5 _ _) (fun _ _ h=>h) (YL.mono hW.sup),J9 _ _⟩ hv hz (by simp) (fun j h0 hk=>by rw[ow (by omega),ow (by omega)])
     (by rw[ow hk0];exact Cc.pE hcr.size) (Cc.pF (by simp[hcr.size])) (.inr rfl) (Gi (c:=c) (k:=k) (s:=s) (r:=r) (cap:=0) (.inr ⟨rfl,rfl⟩) (G bC dA).frame.fn (core g).frame.fn (G bC dA).frame.fn (core g).frame.fn (G bC dA).frame.place (core g).frame.place (G bC dA).frame.place (core g).frame.place) hmid
   have hrm:=hst'.2.2 ν (U2 R' v ν hv hS);obtain⟨Γ,hn₁⟩:=(Dk ..).1 hrm;exact⟨_,_,hrunT,ih _ _ _ _ _ _ _ _ sl _ _ _ _ _ _ _ _ _ _ (Γ+1) hopen (.inl ⟨Γ,rfl,hn₁.rely (Jl hW.own.cX hW.own.cS _ _ _ _ _ _ _)⟩) hws⟩
end
end Sr
end
section
open Go.Conc
open Go.ConcN (sumTo upd sumTo_upd upd_ne upd_same)
namespace Cc
def BW(P:Program)(g:Goroutine)(w:World)(Φ:Goroutine->World->Prop):Prop :=∀ (d:Nat)(gs:Array Goroutine)(sl:Option (Nat×Nat))(t:Trace)(q:Nat->Nat)(B:Nat),gs[0]? = some g->Leavers P t gs q->Past Ai B t->w.heap.size<=B ->
  ∃ N m' t',runNT P N (crowd gs (w.at d) sl) t=(.next m',t')/\WR P Φ m' t'
section
variable {P:Program}{g:Goroutine}{w:World}{Φ Ψ:Goroutine->World->Prop}
theorem BW.done(h:∀ d,Φ g (w.at d)):BW P g w Φ:=fun d gs sl t q B h0 hL hP hB=>⟨0,_,t,rfl,gs,g,w.at d,sl,q,B,rfl,h0,h d,hL,hP,hB⟩
theorem BW.bind(h:BW P g w Φ)(hn:∀ g' w',Φ g' w'->BW P g' w' Ψ):BW P g w Ψ:=fun d gs sl t q B h0 hL hP hB=>by
 obtain⟨N,m',t',hr,gs',g',w',sl',q',B',rfl,h0',hΦ,hL',hP',hB'⟩:=h d gs sl t q B h0 hL hP hB;obtain⟨M,m'',t'',hr',hd⟩:=hn g' w' hΦ w'.drawn gs' sl' t' q' B' h0' hL' hP' hB';exact⟨N+M,m'',t'',by rw[runNT_add,hr];exact hr',hd⟩
theorem BW.mono(h:BW P g w Φ)(hn:∀ g' w',Φ g' w'->Ψ g' w'):BW P g w Ψ:=fun d gs sl t q B h0 hL hP hB=>by
 obtain⟨N,m',t',hr,gs',g',w',sl',q',B',rfl,h0',hΦ,hL',hP',hB'⟩:=h d gs sl t q B h0 hL hP hB;exact⟨N,_,t',hr,gs',g',w',sl',q',B',rfl,h0',hn _ _ hΦ,hL',hP',hB'⟩
theorem BW.at(h:BW P g w Φ)(d:Nat):BW P g (w.at d) Φ:=fun d' gs sl t q B h0 hL hP hB=>h d' gs sl t q B h0 hL hP hB
theorem EA(hrun:g.status=.running):∀ (M:Nat)(d:Nat)(gs:Array Goroutine)(sl:Option (Nat×Nat))(t:Trace)(q:Nat->Nat)(B:Nat),sumTo gs.size q=M->gs[0]? = some g->Leavers P t gs q->Past Ai B t ->
  ∃ N gs' d' sl' t' q' d2 sl2,runNT P N (crowd gs (w.at d) sl) t=(.next (crowd gs' (w.at d') sl'),t')/\gs'[0]? = some g/\Leavers P t' gs' q'/\Past Ai B t'/\stepT P (crowd gs' (w.at d') sl')=runT P (crowd gs' (w.at d2) sl2) 0:=by
 intro M
 induction M using Nat.strongRecOn with
 | _ M Qw =>
  intro d0 gs sl t q B hM h0 hL hP;have hpos:0<gs.size:=(fT.1 h0).1;have haw:∀ g∈gs,awake g:=by
   intro g' hg;obtain⟨i,hi,rfl⟩:=qcj.1 hg;rcases UZ i with rfl|hp
   .have:gs[0]=g:=by simpa[mJ hi] using h0
    rw[this];exact awake_of (.inl hrun)
   .exact awake_of ((hL.old i _ hp (mJ hi)).status.elim .inl fun x=>.inr (.inr x))
  obtain⟨i,g',d,sl',hi,hg,hst⟩:=crowd_pick (P:=P) (w:=w.at d0) (sl:=sl) haw ⟨0,_,h0,hrun⟩;rcases UZ i with rfl|hp
  .exact⟨0,gs,d0,sl,t,q,d,sl',rfl,h0,hL,hP,hst⟩
  .have hq:=hL.old i g' hp hi;have hi0:(i==0)=false:=by simp;omega
   have hlt:i<gs.size:=(fT.1 hi).1
   cases hqi:q i with
   | zero=>rw[hqi] at hq;rw[hq.1] at hg;cases hg
   | succ k =>
    rw[hqi] at hq;rcases hq with⟨hf,_⟩|⟨_,g2,es',hm,hstp,hq'⟩
    .rw[hf] at hg;cases hg
    have hrunT:=runT_crowd_go (P:=P) (sl:=sl') (i:=i) hi (by rw[hi0];exact hstp ((w.at d0).at d));have hsz:((gs.map (woken P g' g2 ((w.at d0).at d))).setIfInBounds i g2).size=gs.size:=by simp
    have hsum:sumTo gs.size (upd q i k)+(k+1)=sumTo gs.size q+k:=by
     have:=sumTo_upd q k id hlt;simpa[hqi] using this
    obtain⟨N,gs',d',sl'',t',q',d2,sl2,hr,h0',hL',hP',hst'⟩:=Qw (sumTo gs.size (upd q i k)) (by omega) d ((gs.map (woken P g' g2 ((w.at d0).at d))).setIfInBounds i g2) sl' (t++MemOp.ofEvents i g'.frame.fn g'.frame.place es') (upd q i k) B (by rw[hsz])
     (by rw[ow (by omega),JO,h0];simp[woken_run hrun])
     ⟨fun j x hj hx=>by
      by_cases hji:i=j
      .subst hji;rw[Sn (by simpa using hlt)] at hx;obtain rfl:=pQ hx;rw[upd_same,Deaf_own];exact hq'
      .rw[ow hji,JO] at hx;obtain⟨y,hy,rfl⟩:=zA.1 hx;have hqj:=hL.old j y hj hy;rw[woken_quitsD hqj,upd_ne q k (Ao hji),Deaf_other t hji _ (fun op hop=>by obtain⟨e,_,rfl⟩:=Go.Conc.mem_ofEvents hop;rfl)];exact hqj,
     fun j hj=>by
      rw[Deaf_other t (g':=i) (by simp at hj;omega) _ (fun op hop=>by obtain⟨e,_,rfl⟩:=Go.Conc.mem_ofEvents hop;rfl)];exact hL.above j (by simpa using hj)⟩
     (hP.mute (by omega) hm)
    refine⟨N+1,gs',d',sl'',t',q',d2,sl2,?_,h0',hL',hP',hst'⟩;simp only[runNT,hst,hrunT];exact hr
theorem BW.step(hrun:g.status=.running)(h:∀ d,∃ g' w' es,stepG P true g (w.at d)=.go g' w' es/\w.heap.size<=w'.heap.size/\(∀ e∈es,Low w'.heap.size e)/\BW P g' w' Φ):BW P g w Φ:=fun d0 gs sl t q B h0 hL hP hB=>by
 obtain⟨N,gs1,d1,sl1,t1,q1,d2,sl2,hr,h01,hL1,hP1,hst⟩:=EA (w:=w) hrun _ d0 gs sl t q B rfl h0 hL hP;have hpos:0<gs1.size:=(fT.1 h01).1;obtain⟨g',w',es,hgo,hsz,hlow,hbw⟩:=h d2;have hrunT:=runT_crowd_go (P:=P) (sl:=sl2) (i:=0) h01 (show stepG P (0==0) g (w.at d2)=_ from hgo);obtain⟨M,m',t',hr',hd⟩:=hbw w'.drawn ((gs1.map (woken P g g' w')).setIfInBounds 0 g') sl2 (t1++MemOp.ofEvents 0 g.frame.fn g.frame.place es) q1 (max B w'.heap.size) (by rw[Sn (by simpa using hpos)]) (hL1.own hpos _ _ es)
  ((hP1.mono (Z5 _ _)).own fun e he=>uo (hlow e he) (J9 _ _)) (J9 _ _)
 refine⟨N+(1+M),m',t',?_,hd⟩;rw[runNT_add,hr];show runNT P (1+M) _ _=_;rw[runNT_add];simp only[runNT,hst,hrunT];exact hr'
theorem BW.tree{Q:Frame->World->Prop}{fr:Frame}{cs base:List Frame}(ht:Tree P Q fr cs w)(h:∀ fr' w',OkR P fr'->(∀ d,Q fr' (w'.at d))->BW P (G fr' base) w' Φ):BW P (G fr (cs++base)) w Φ:=fun d0 gs sl t q B h0 hL hP hB=>by
 obtain⟨N,gs',fr',w',sl',t',q',B',hr,_,h0',hok,hQ,hL',hP',hB'⟩:=RS ht base _ d0 gs sl t q B rfl h0 hL hP hB;obtain⟨M,m',t'',hr',hd⟩:=h fr' w' hok hQ w'.drawn gs' sl' t' q' B' h0' hL' hP' hB';exact⟨N+M,m',t'',by rw[runNT_add,hr];exact hr',hd⟩
end
end Cc
end
section
open Go.Conc
open Go.ConcN (sumTo upd sumTo_upd upd_ne upd_same)
open Cc (tp Ai jV Shut Comm heard_new lI BW EA Low uo)
namespace Sr
section
variable {P:Program}{L:FuncId->Bool}{K:Op->Bool}{S:Nat->Prop}{c:Nat}{w0:World}{D:Nat->Prop}{z:Value}{Sh:Value->Prop}{Fin:List Value->(Nat->Prop)->Goroutine->World->Prop}{fU:List Value->World->Prop}
def aeu(P:Program)(L:FuncId->Bool)(S:Nat->Prop)(c:Nat)(w0:World)(D:Nat->Prop)(Fin:List Value->(Nat->Prop)->Goroutine->World->Prop)(fU:List Value->World->Prop)(g:Goroutine)(w:World):Prop :=∃ (X:Nat->Prop)(R:Nat->Nat->Prop)(wg:World)(vs acc:List Value),Fin acc X g w/\fU vs wg/\LV R L vs acc/\GB P R/\FZ R wg.heap.size w.heap.size/\HR R L wg.heap w.heap/\Own2 L S c w0.heap.size w0 (mQ D) R X w
theorem Z7{g:Goroutine}{w:World}(hrun:g.status=.running)(hK:vB P L K)(hL:∀ f,L f=true->fK P f)(U2:∀ R v ν,VR R L v ν->Sh v->Sh ν)(hgb:GB P (mQ D))(PK:∀ a,D a->a<w0.heap.size)(hDc:¬ D c)(hSl:∀ b,S b->b<w0.heap.size)(hSD:∀ b,S b->D b)(hoq:∀ b:Nat,L (2*b+1000000001)=true->b<w0.heap.size)(hheap:HR (mQ D) L w0.heap w0.heap){s r m:Nat}{tm:Bool}(hc:w0.heap[c]? = some (.chan 0 #[] false s r tm))(h:∀ d,∃ g' fr cs d' es,stepG P true g (w.at d)=.spawn g' (G fr cs) (w0.at d') es/\w.heap.size<=w0.heap.size/\(∀ e∈es,Low w0.heap.size e)/\SL P (mQ D) L K false O0 [] [] fr cs fr cs /\
   RM P S c z Sh Fin m [] (fun _=>False) g' (w0.at d')/\WS P L K S c Sh fU m [] fr cs (w0.at d')):BW P g w (aeu P L S c w0 D Fin fU):=by
 intro d0 gs sl t q B h0 hL0 hP hB;obtain⟨N,gs1,d1,sl1,t1,q1,d2,sl2,hr,h01,hL1,hP1,hst⟩:=EA (w:=w) hrun _ d0 gs sl t q B rfl h0 hL0 hP;have hpos:0<gs1.size:=(fT.1 h01).1;obtain⟨g',fr,cs,d',es,hgo,hsz,hlow,hsl,hR,hC⟩:=h d2;have hrunT:=runT_crowd_spawn (P:=P) (sl:=sl2) (i:=0) h01 (show stepG P (0==0) g (w.at d2)=_ from hgo);obtain⟨na,hna⟩:=(Dk ..).1 hR;have hP2:=(hP1.mono (Z5 B w0.heap.size)).own (fn:=g.frame.fn) (pos:=g.frame.place) fun e he=>uo (hlow e he) (J9 _ _)
 have hk0:gs1.size≠0:=by omega
 have aev:∀ j,j≠0->Deaf (t1++MemOp.ofEvents 0 g.frame.fn g.frame.place es) j=Deaf t1 j:=fun j hj=>Deaf_other t1 (g':=0) (Ao hj) _ (fun op hop=>by obtain⟨e,_,rfl⟩:=Go.Conc.mem_ofEvents hop;rfl)
 have hmid:=Mid.start (X:=XL S fun _=>False) (Y:=YL S c (mQ D)) (x:={g:=0,fn:=g.frame.fn,pos:=g.frame.place,act:=.go gs1.size}) (y:={g:=gs1.size,fn:=fr.fn,pos:=g.frame.place,act:=.start}) hP2 hk0 (by rw[aev _ hk0];exact hL1.above _ (aY _)) rfl rfl rfl rfl;have hT:t1++((MemOp.ofEvents 0 g.frame.fn g.frame.place es).push {g:=0,fn:=g.frame.fn,pos:=g.frame.place,act:=.go gs1.size}).push {g:=gs1.size,fn:=fr.fn,pos:=g.frame.place,act:=.start}=t1++MemOp.ofEvents 0 g.frame.fn g.frame.place es++#[{g:=0,fn:=g.frame.fn,pos:=g.frame.place,act:=.go gs1.size}]++#[{g:=gs1.size,fn:=fr.fn,pos:=g.frame.place,act:=.start}]:=by simp
 have hD2:∀ j,j≠0->Deaf (t1++MemOp.ofEvents 0 g.frame.fn g.frame.place es++#[{g:=0,fn:=g.frame.fn,pos:=g.frame.place,act:=.go gs1.size}]++#[{g:=gs1.size,fn:=fr.fn,pos:=g.frame.place,act:=.start}]) j=Deaf t1 j:=fun j hj=>by
  rw[Deaf_push,Deaf_push,aev j hj];rfl
 have hopen:Open P L K S c w0.heap.size w0 (mQ D) gs1.size ((gs1.setIfInBounds 0 g').push (G fr cs)) g' (G fr cs) (w0.at d') (t1++MemOp.ofEvents 0 g.frame.fn g.frame.place es++#[{g:=0,fn:=g.frame.fn,pos:=g.frame.place,act:=.go gs1.size}]++#[{g:=gs1.size,fn:=fr.fn,pos:=g.frame.place,act:=.start}]) q1 (max B w0.heap.size) (fun _=>False) (mQ D) fr cs (w0.at d') fr cs [] [] s r tm:=by
  refine⟨⟨hpos,by simp,fun i x hi0 hik hi=>?_,fun j hj=>?_⟩,?_,?_,hc,⟨hgb,fun a b hab=>⟨PK a hab.2,hab.1 ▸ PK a hab.2⟩,hheap,hsl⟩,⟨fun a ha=>hDc (ha.1 ▸ ha.2),id,fun _ _ _ h=>h,fun _ h=>h.elim,fun b _ _ _=>rfl,rfl,rfl,rfl,fun _ _ h=>h,aY _,(fT.1 hc).1,fun a b h _=>h.1,hSl,fun _ _ h _=>h,fun b hS=>⟨rfl,hSD b hS⟩,hoq⟩,.nil,hmid,J9 _ _⟩
  .have hi':gs1[i]? = some x:=by
    rw[Qi,if_neg (by simp;omega),ow (by omega)] at hi;exact hi
   rw[hD2 i (by omega)];exact hL1.old i x hi0 hi'
  .rw[hD2 j (by omega)];exact hL1.above j (by omega)
  .rw[Array.getElem?_push_lt (by simpa using hpos)];simp
  .have e:gs1.size=(gs1.setIfInBounds 0 g').size:=by simp
   rw[e,JL]
 obtain⟨M,m',t',hr',hd⟩:=YO (n0:=w0.heap.size) (w0:=w0) (R0:=mQ D) (Fin:=Fin) (fU:=fU) hK hL U2 m [] [] fr cs (w0.at d') _ g' (w0.at d') sl2 _ q1 _ _ _ fr cs s r tm (na+1) hopen (.inl ⟨na,rfl,hna⟩) hC;obtain⟨gs',a',w',sl',q',B',X',R',IQ,vs',acc',rfl,k1,k2,k3,k4,k5,k6,k7,k8,k9,k10,k11⟩:=hd;refine⟨N+(1+M),_,t',?_,gs',a',w',sl',q',B',rfl,k1,⟨X',R',IQ,vs',acc',k2,k3,k4,k5,k6,k7,k8⟩,k9,k10,k11⟩;rw[runNT_add,hr];show runNT P (1+M) _ _=_;rw[runNT_add];simp only[runNT,hst,hrunT];rw[show(G fr cs).frame.fn=fr.fn from rfl,hT];exact hr'
end
end Sr
end
section
open Go.Conc
namespace Cc
section
variable {P:Program}{L:List FuncId}{w:World}{Φ:Goroutine->World->Prop}{b:Frame}{a:Act}{k:List Item}{cs:List Frame}
theorem BW.ctl{g g':Goroutine}(hr:g.status=.running)(h:∀ w,stepG P true g w=.go g' w #[])(hn:BW P g' w Φ):BW P g w Φ :=BW.step hr fun d=>⟨g',w.at d,#[],h _,aY _,by simp,hn.at d⟩
theorem BW.seq{x y:Code}(h:BW P (G (b.at a (.code x::.code y::k)) cs) w Φ):BW P (G (b.at a (.code (.seq x y)::k)) cs) w Φ:=.ctl rfl (fun _=>stepG_seq) h
theorem BW.skip(h:BW P (G (b.at a k) cs) w Φ):BW P (G (b.at a (.code .skip::k)) cs) w Φ:=.ctl rfl (fun _=>stepG_skip) h
theorem BW.cond{c:Operand}{x y:Code}{t:Bool}(hc:a.eval c=.bool t)(h:BW P (G (b.at a (.code (if t then x else y)::k)) cs) w Φ):BW P (G (b.at a (.code (.cond c x y)::k)) cs) w Φ:=.ctl rfl (fun _=>stepG_cond hc) h
theorem BW.region{id:Nat}{ops:Array Oper}(h:BW P (G (b.at a (.inRegion ops (List.range' 0 ops.size)::k)) cs) w Φ):BW P (G (b.at a (.code (.region id ops false)::k)) cs) w Φ:=.ctl rfl (fun _=>by rw[stepG_region,List.range_eq_range']) h
theorem BW.rend{ops:Array Oper}(h:BW P (G (b.at a k) cs) w Φ):BW P (G (b.at a (.inRegion ops []::k)) cs) w Φ:=.ctl rfl (fun _=>stepG_region_end) h
theorem BW.JB{ops:Array Oper}{Q:Exit->Act->World->Prop}{Rr:Act->World->Prop}(hk:b.kind≠.early)(hP:fO P L)(hQ:∀ e a w,Q e a w->e=.normal/\Rr a w)(hR:∀ a w τ d,Rr a w->Rr a (tp w τ d)){rest:List Nat}{T0:Nat->Question->Nat}(hn:∀ a' w',w'.tape=T0->Rr a' w'->BW P (G (b.at a' (.inRegion ops rest::k)) cs) w' Φ):∀ (l:List Oper)(i D:Nat)(h:Nat->Question->Nat)(a:Act)(w:World),w.tape=T0->(∀ j,j<l.length->l[j]? = ops[i+j]?)->(∀ o∈l,bT P [] o.op=true)->(∀ τ d,(∀ x,x<D->τ (d+x)=h x)->wpList P ops Q l a (tp w τ (d+D))) ->
   BW P (G (b.at a (.inRegion ops (List.range' i l.length++rest)::k)) cs) w Φ
 | [],i,D,h,a,w,hT,_,_,hw=>by
  have h1:=(hQ _ _ _ (hw h 0 (fun x _=>by rw[lU]))).2;have h2:=hR _ _ w.tape w.drawn h1;rw[V8,aa0] at h2;simpa using hn a w hT h2
 | o::l,i,D,h,a,w,hT,hl,hok,hw=>by
  have ho:ops[i]? = some o:=by simpa using(hl 0 (by simp)).symm
  have hl':∀ j,j<l.length->l[j]? = ops[i+1+j]?:=fun j hj=>by
   have:=hl (j+1) (by simp;omega);simpa[Zu,Nat.add_comm 1 j] using this
  have hok':∀ o∈l,bT P [] o.op=true:=fun x hx=>hok x (List.mem_cons_of_mem _ hx)
  simp only[oH,List.range'_succ,NJ];by_cases hwt:Region.wanted o (yielded ops a.tmps)=true
  .refine BW.step rfl fun d=>?_
   obtain⟨n,r,es',hr⟩:=dZ (uy (P:=P) (L:=[]) (hE:=zF P) (ρ:=a.eval) (o:=o) (fun f=>rfl) (hok o (by simp))) (w.at d) #[];have hlow:=qR hr.low;have hrun:(execOp a.eval o).run P (w.at d)=r:=by rw[<-Sem.runT_fst,hr.eq]
   have hev:(execOp a.eval o).events P (w.at d) #[]=es':=by unfold Sem.events;rw[hr.eq]
   have agv:∀ (τ:Nat->Question->Nat)(e:Nat),(∀ x,x<n->τ (e+x)=w.tape (d+x))->(execOp a.eval o).run P (tp w τ e)=tpR τ (e+n) r:=fun τ e ht=>by
    rw[<-Sem.runT_fst];have:=hr.nat τ e ht;rw[show tp (w.at d) τ e=tp w τ e from rfl] at this;rw[this]
   have hup:∀ (τ:Nat->Question->Nat)(e:Nat),(∀ x,x<D->τ (e+x)=h x)->(∀ x,x<n->τ (e+D+x)=w.tape (d+x))->o.upon P a (wpList P ops Q l) Q (tpR τ (e+D+n) r):=fun τ e h1 h2=>by
    have:=hw τ e h1;unfold wpList at this;rw[if_pos hwt] at this;rcases this with h3|⟨_,x,y,h3⟩
    .unfold Oper.wp at h3;rw[agv τ (e+D) h2] at h3;exact h3
    .have:=(hQ _ _ _ h3).1;cases this
   let h':Nat->Question->Nat:=fun x=>if x<D then h x else w.tape (d+(x-D))
   have hsplit:∀ (τ:Nat->Question->Nat)(e:Nat),(∀ x,x<D+n->τ (e+x)=h' x)->(∀ x,x<D->τ (e+x)=h x)/\∀ x,x<n->τ (e+D+x)=w.tape (d+x):=fun τ e ht=>by
    refine⟨fun x hx=>?_,fun x hx=>?_⟩
    .rw[ht x (by omega)];simp[h',hx]
    .rw[Zu,ht (D+x) (by omega)];simp only[h'];rw[if_neg (by omega),show D+x-D=x by omega]
   have hex:∀ x,x<D+n->(fun y=>h' y) (0+x)=h' x:=fun x _=>by rw[lU]
   cases r with
   | ok nx w' =>
    have hg:=hr.good nx w' rfl
    cases nx with
    | value v =>
     refine⟨_,w',seen P b.fn es',?_,hr.size,fM hlow,BW.JB hk hP hQ hR hn l (i+1) (D+n) h' (a.put o.dst v) w' (hr.tape.trans hT) hl' hok' fun τ e ht=>?_⟩
     .rw[stepG_value ho hwt hk hrun];unfold listed;rw[hev]
     .have:=hsplit τ e ht;have:=hup τ e this.1 this.2;rw[Zu] at this;exact this
    | skip =>
     refine⟨_,w',seen P b.fn es',?_,hr.size,fM hlow,BW.JB hk hP hQ hR hn l (i+1) (D+n) h' (a.put o.dst undef) w' (hr.tape.trans hT) hl' hok' fun τ e ht=>?_⟩
     .rw[stepG_none ho hwt hk hrun];unfold listed;rw[hev]
     .have:=hsplit τ e ht;have:=hup τ e this.1 this.2;rw[Zu] at this;exact this
    | enter f args=>simp[nI,oD] at hg
    | _=>exact hg.elim
   | halt x w' =>
    have h1:=hsplit (fun y=>h' y) 0 hex;have h2:=hup (fun y=>h' y) 0 h1.1 h1.2
    cases x with
    | panic v=>have:=(hQ _ _ _ h2).1;cases this
    | _=>exact h2.elim
  .have hwf:Region.wanted o (yielded ops a.tmps)=false:=by simpa using hwt
   refine BW.ctl rfl (fun _=>stepG_unwanted ho hwf) (BW.JB hk hP hQ hR hn l (i+1) D h (a.put o.dst undef) w hT hl' hok' fun τ d ht=>?_);have:=hw τ d ht;unfold wpList at this;rw[if_neg hwt] at this;exact this
theorem BW.ops{ops:Array Oper}{Rr:Act->World->Prop}{rest:List Nat}(l:List Oper)(i:Nat)(hk:b.kind≠.early)(hP:fO P L)(hl:∀ j,j<l.length->l[j]? = ops[i+j]?)(hok:(l.all fun o=>bT P [] o.op)=true)(hw:∀ τ d,wpList P ops (fun e a w=>e=.normal/\Rr a w) l a (tp w τ d))(hR:∀ a w τ d,Rr a w->Rr a (tp w τ d))(hn:∀ a' w',Rr a' w'->BW P (G (b.at a' (.inRegion ops rest::k)) cs) w' Φ):BW P (G (b.at a (.inRegion ops (List.range' i l.length++rest)::k)) cs) w Φ :=BW.JB hk hP (fun _ _ _ h=>h) hR (fun a' w' _ h=>hn a' w' h) l i 0 (fun _ _=>0) a w rfl hl (by simpa using hok) fun τ d _=>hw τ d
theorem aiG{o:Oper}{Q Q':Exit->Act->World->Prop}{K K':Act->World->Prop}(hq:∀ e a w,Q e a w->Q' e a w)(h:∀ a w,K a w->K' a w)(hh:o.wp P a w K Q):o.wp P a w K' Q':=by
 unfold Oper.wp at *
 generalize (execOp a.eval o).run P w=r at *
 cases r with
 | ok n w' =>
  cases n <;> simp only[Oper.upon] at hh ⊢ <;>
   first
    | exact h _ _ hh
    | exact Calls.mono hh (fun e w'' he=>by
      cases e with
      | returned v=>exact h _ _ he
      | panicked ch=>exact hq _ _ _ he
      | outgrown=>obtain⟨x,y,he⟩:=he;exact⟨x,y,hq _ _ _ he⟩)
    | exact Rows.mono hh (fun _ _ he=>h _ _ he)
 | halt x w'=>cases x <;> simp only[Oper.upon] at hh ⊢ <;> first|exact hq _ _ _ hh|exact hh
theorem ah5{ops:Array Oper}{Q Q':Exit->Act->World->Prop}(hq:∀ e a w,Q e a w->Q' e a w):∀ (l:List Oper)(a:Act)(w:World),wpList P ops Q l a w->wpList P ops Q' l a w
 | [],a,w,h=>hq _ _ _ h
 | o::l,a,w,h=>by
  unfold wpList at h ⊢;split
  .rename_i hw
   rw[if_pos hw] at h;rcases h with h|⟨h1,x,y,h2⟩
   .exact .inl (aiG hq (ah5 hq l) h)
   .exact .inr ⟨h1,x,y,hq _ _ _ h2⟩
  .rename_i hw
   rw[if_neg hw] at h;exact ah5 hq l _ _ h
theorem BW.still{ops:Array Oper}{rest:List Nat}(a':Act)(l:List Oper)(i:Nat)(hk:b.kind≠.early)(hP:fO P L)(hl:∀ j,j<l.length->l[j]? = ops[i+j]?)(hok:(l.all fun o=>bT P [] o.op)=true)(hw:∀ τ d,wpList P ops (fun e x y=>e=.normal/\x=a'/\y=tp w τ d) l a (tp w τ d))(hn:BW P (G (b.at a' (.inRegion ops rest::k)) cs) w Φ):BW P (G (b.at a (.inRegion ops (List.range' i l.length++rest)::k)) cs) w Φ:=by
 refine BW.JB (Q:=fun e x y=>e=.normal/\x=a'/\∃ τ d,y=tp w τ d) (Rr:=fun x y=>x=a'/\∃ τ d,y=tp w τ d) hk hP (fun _ _ _ h=>h) (fun x y τ d h=>⟨h.1,τ,d,by obtain⟨_,jH,d',rfl⟩:=h;rfl⟩) (fun x y hT h=>?_) l i 0 (fun _ _=>0) a w rfl hl (by simpa using hok) fun τ d _=>ah5 (fun e x y h=>⟨h.1,h.2.1,τ,d,h.2.2⟩) l a _ (hw τ d)
 obtain⟨rfl,τ,d,rfl⟩:=h;have hT':τ=w.tape:=hT;subst hT';exact hn.at d
theorem BW.call{ops:Array Oper}{i:Nat}{rest:List Nat}{o:Oper}{f:FuncId}{fn:Func}{c:Code}{args:Array Operand}{ats:Array TypeId}{Rr:Value->World->Prop}(ho:ops[i]? = some o)(hw:Region.wanted o (yielded ops a.tmps)=true)(hk:b.kind≠.early)(hop:o.op=.call {callee:=.value (.func f),args,argTypes:=ats})(hP:fO P L)(hL:oD P L f=true)(hf:P.funcs[f]? = some fn)(hb:fn.body=some c){vs:Array Value}(ha:args.map a.eval=vs)(hC:∀ τ d,Calls P f vs (tp w τ d) fun e w'=>∃ v,e=.returned v/\Rr v w')(hR:∀ v w' τ d,Rr v w'->Rr v (tp w' τ d))(hn:∀ v w',Rr v w'->BW P (G (b.at (a.put o.dst v) (.inRegion ops rest::k)) cs) w' Φ):BW P (G (b.at a (.inRegion ops (i::rest)::k)) cs) w Φ:=by
 subst ha;have hname:(fn.name == "runtime.NumGoroutine")=false:=by
  unfold oD at hL;rw[hf] at hL;simp only[fE,bne_iff_ne,ne_eq] at hL;simpa using hL.2.1
 have hfin:∀ v,(b.at a (.inRegion ops (i::rest)::k)).finish v=b.at (a.put o.dst v) (.inRegion ops rest::k):=fun v=>by rw[Frame.finish_at,ho];rfl
 have henter:Frame.enter P f (args.map a.eval) .normal=(base f).at {tmps:=args.map a.eval++Array.replicate (fn.ntmps-(args.map a.eval).size) undef,defers:=[]} [.code c]:=by
  simp[Frame.enter,Frame.at,hf,hb,base]
 refine BW.ctl rfl (fun w=>?_) (g':=G (Frame.enter P f (args.map a.eval) .normal) (b.at a (.inRegion ops (i::rest)::k)::cs)) ?_
 .have:=goes_call (main:=true) (w:=w) (K:=fun g' w' es=>g'=G (Frame.enter P f (args.map a.eval) .normal) (b.at a (.inRegion ops (i::rest)::k)::cs)/\w'=w/\es=#[]) (cs:=cs) (k:=k) (rest:=rest) ho hw hk hop hf hname hb ⟨by rw[henter],rfl,rfl⟩;obtain⟨g',w',es,h1,rfl,rfl,rfl⟩:=goes_elim this;exact h1
 .have ht:=FM hP hL hC hR;refine BW.tree (cs:=[]) (base:=b.at a (.inRegion ops (i::rest)::k)::cs) ht fun fr' w' hok hq=>?_
  obtain⟨g,tmps,todo,rfl,hg⟩:=hok;refine BW.step rfl fun d=>?_
  obtain⟨gn,v,hgn,hres,hRr,_⟩:=hq d;obtain⟨n,r,es',hr⟩:=dZ (kS (P:=P) gn tmps) (w'.at d) #[];have hlow:=qR hr.low;have h1:r=.ok v (w'.at d):=by
   have:((results gn tmps).runT P (w'.at d) #[]).1=.ok v (w'.at d):=by rw[Sem.runT_fst];exact hres
   rw[hr.eq] at this;exact this
  subst h1;refine⟨_,w'.at d,seen P g es',?_,aY _,fM hlow,hn v _ hRr⟩;rw[<-hfin];have hun:stepG P true (G (R g tmps todo) (b.at a (.inRegion ops (i::rest)::k)::cs)) (w'.at d)=unwind P true (R g tmps todo) (b.at a (.inRegion ops (i::rest)::k)::cs) none (w'.at d):=by simp[stepG,R,G]
  rw[hun];have XK:P.funcs[g]? = some gn:=hgn;unfold unwind;simp only[R,XK,hr.eq];simp[GStep.after,doReturn,G]
def Ends(P:Program)(Post:Value->World->Prop)(g:Goroutine)(w:World):Prop :=∃ f tmps todo fn v,g=G (R f tmps todo) []/\P.funcs[f]? = some fn/\P.inits.idxOf? f=none/\(∀ d,(results fn tmps).run P (w.at d)=.ok v (w.at d)/\Post v (w.at d))
theorem BW.last{f:FuncId}{fn:Func}{c:Code}{tmps:Array Value}{Post:Value->World->Prop}(hP:fO P L)(hf:P.funcs[f]? = some fn)(hi:P.inits.idxOf? f=none)(hc:gU P L c=true)(hC:∀ τ d,c.wp P (bodyPost P fn fun e w'=>∃ v,e=.returned v/\Post v w') {tmps,defers:=[]} (tp w τ d))(hR:∀ v w' τ d,Post v w'->Post v (tp w' τ d)):BW P (G ((base f).at ⟨tmps,[]⟩ [.code c]) []) w (Ends P Post):=by
 have ht:=DU (f:=f) hP hf hc hC hR;refine BW.tree (cs:=[]) (base:=[]) (fr:=F f tmps [.code c]) ht fun fr' w' hok hq=>.done fun d=>?_
 obtain⟨g,tm,todo,rfl,_⟩:=hok;obtain⟨gn,v,hgn,hres,hv,hfn⟩:=hq 0;have hfn':g=f:=hfn;subst hfn';refine⟨g,tm,todo,gn,v,rfl,hgn,hi,fun d'=>?_⟩;have h1:=jX (f:=0) hres w'.tape d';obtain⟨gn',v',XK,hres',hv',_⟩:=hq d';have abL:P.funcs[g]? = some gn':=XK;have ag7:P.funcs[g]? = some gn:=hgn;rw[ag7] at abL
 cases abL
 have h2:(results gn tm).run P (w'.at d')=.ok v (w'.at d'):=h1;have h3:(results gn tm).run P (w'.at d')=.ok v' (w'.at d'):=hres';rw[h2] at h3;simp only[Result.ok.injEq,and_true] at h3;subst h3;exact⟨h2,hv'⟩
theorem BW.finish{g:Goroutine}{Post:Value->World->Prop}(h:BW P g w (Ends P Post)):∃ N last o w' t',runNT P (N+1) (solo g w) #[]=(.ended o w',t')/\runN P N (solo g w)=.next last/\Go.step P last=.ended o w'/\Go.Conc.Good P Post last o w' t':=by
 obtain⟨N,m',t',hr,gs,a,w',sl',q',B',rfl,h0,⟨f,tmps,todo,fn,v,rfl,hf,hi,hd⟩,hL,hP,hB⟩:=h w.drawn #[g] none #[] (fun _=>0) w.heap.size (by simp) (leavers_one P g) ((past_nil).mono (M8 _)) (aY _);have hend:∀ d,∃ es,stepG P true (G (R f tmps todo) []) (w'.at d)=.ended (.done v) (w'.at d) es/\∀ e∈es,Low w'.heap.size e:=fun d=>by
  obtain⟨n,r,es',hr⟩:=dZ (kS (P:=P) fn tmps) (w'.at d) #[];have hlow:=qR hr.low;have h1:r=.ok v (w'.at d):=by
   have:((results fn tmps).runT P (w'.at d) #[]).1=.ok v (w'.at d):=by rw[Sem.runT_fst];exact(hd d).1
   rw[hr.eq] at this;exact this
  subst h1;refine⟨seen P f es',?_,fM hlow⟩;have hun:stepG P true (G (R f tmps todo) []) (w'.at d)=unwind P true (R f tmps todo) [] none (w'.at d):=by simp[stepG,R,G]
  rw[hun];unfold unwind;simp only[R,hf,hr.eq];simp[GStep.after,doReturn,hi]
 have hG:Goes P true AtRel (fun _ _ es=>∀ e∈es,EvL Ai B' e) (AtEnd P Ai B' Post) 0 (G (R f tmps todo) []) w':=fun ω aeH=>by
  obtain⟨d,rfl⟩:=aeH;obtain⟨es,h1,h2⟩:=hend d;exact⟨rfl,v,es,h1,fun e he=>uo (h2 e he) hB,(hd d).2⟩
 obtain⟨M,last,o,w'',t'',h1,h2,h3,h4⟩:=beside_ends (sl:=sl') (fun _ _ _ h=>h) h0 hL hP hG;have hr':runNT P N (solo g w) #[]=(.next (crowd gs w' sl'),t'):=hr;refine⟨N+M,last,o,w'',t'',?_,?_,h3,h4⟩
 .rw[Zu,runNT_add,hr'];exact h1
 .have e:runN P N (solo g w)=.next (crowd gs w' sl'):=by rw[<-runNT_fst _ _ _ #[],hr']
  rw[runN_add,e];exact h2
end
end Cc
end
section
open Go.Conc
open Go.ConcN (sumTo upd sumTo_upd upd_ne upd_same)
open Cc (tp Ai BW EA c0)
namespace Sr
theorem XY{R:Nat->Nat->Prop}{n:Nat}{e:Event}(h:Ev R n e):EvL Ai n e:=by
 obtain⟨loc,wr,sy⟩:=e;rcases h with⟨a,x,h1,h2,h3,h4⟩|⟨r,x,h1,h2,h3,h4⟩|⟨m,h1,h2,h3,h4⟩
 .simp only at h1 h4;subst h1 h4;exact⟨fun x _ hs=>hs.elim,by simp,by simp,show a.block<n from h3⟩
 .simp only at h1 h4;subst h1 h4;refine⟨fun x _ hs=>hs.elim,by simp,by simp,?_⟩
  cases wr
  .exact h3
  .exact h3
 .simp only at h1 h3 h4;subst h1 h3 h4
  cases m <;> first|(cases h2;done)|exact⟨fun x _ hs=>hs.elim,by simp,by simp,trivial⟩
section
variable {P:Program}{L:FuncId->Bool}{K:Op->Bool}{S:Nat->Prop}{Φ:Frame->List Frame->World->Prop}{Ψ:Goroutine->World->Prop}{g:Goroutine}{w:World}
theorem QV(hrun:g.status=.running)(h:∀ d,∃ g' w' es,stepG P true g (w.at d)=.go g' w' es/\w.heap.size<=w'.heap.size/\(∀ e∈es,EvL Ai w'.heap.size e)/\BW P g' w' Ψ):BW P g w Ψ:=fun d0 gs sl t q B h0 hL hP hB=>by
 obtain⟨N,gs1,d1,sl1,t1,q1,d2,sl2,hr,h01,hL1,hP1,hst⟩:=EA (w:=w) hrun _ d0 gs sl t q B rfl h0 hL hP;have hpos:0<gs1.size:=(fT.1 h01).1;obtain⟨g',w',es,hgo,hsz,hlow,hbw⟩:=h d2;have hrunT:=runT_crowd_go (P:=P) (sl:=sl2) (i:=0) h01 (show stepG P (0==0) g (w.at d2)=_ from hgo);have hlow':∀ e∈es,EvL Ai (max B w'.heap.size) e:=fun e he=>⟨(hlow e he).1,(hlow e he).2.1,(hlow e he).2.2.1,MemAct.low_mono (J9 _ _) (hlow e he).2.2.2⟩
 obtain⟨M,m',t',hr',hd⟩:=hbw w'.drawn ((gs1.map (woken P g g' w')).setIfInBounds 0 g') sl2 (t1++MemOp.ofEvents 0 g.frame.fn g.frame.place es) q1 (max B w'.heap.size) (by rw[Sn (by simpa using hpos)]) (hL1.own hpos _ _ es)
  ((hP1.mono (Z5 _ _)).own hlow') (J9 _ _)
 refine⟨N+(1+M),m',t',?_,hd⟩;rw[runNT_add,hr];show runNT P (1+M) _ _=_;rw[runNT_add];simp only[runNT,hst,hrunT];exact hr'
theorem aaj{fr:Frame}{cs base:List Frame}(ht:GT P L K S Φ fr cs w)(hi:UQ P L K O0 fr cs)(h:∀ fr' cs' w',(∀ τ d,Φ fr' cs' (tp w' τ d))->BW P (G fr' (cs'++base)) w' Ψ):BW P (G fr (cs++base)) w Ψ:=by
 induction ht with
 | stop hq=>exact h _ _ _ hq
 | @step fr cs w hn hf fr' cs' w' hst ht ih =>
  refine QV rfl fun d=>?_
  have h1:=hst w.tape d;have h2:=h1.eqT O0 base true w.tape d (.inl rfl) hi (fun i _=>rfl);rw[yj,yj,yD,yD] at h2;obtain⟨hi',es,he,hev⟩:=h2;have e:tp (w' w.tape d) w.tape (d+((w' w.tape d).drawn-(tp w w.tape d).drawn))=w' w.tape d:=by
   have hd':d<=(w' w.tape d).drawn:=h1.drawn;have ht':(w' w.tape d).tape=w.tape:=h1.tape;generalize w' w.tape d=W at hd' ht';show({W with tape:=w.tape,drawn:=d+(W.drawn-d)}:World)=_;rw[show d+(W.drawn-d)=W.drawn by omega,<-ht']
  rw[e] at he;exact⟨_,_,es,he,h1.size,fun e he=>XY (hev e he),ih w.tape d hi'⟩
end
theorem PY{P:Program}{fr:Frame}{w:World}{e:Ending}(h:fr.leaving P w e)(τ:Nat->Question->Nat)(d:Nat):fr.leaving P (tp w τ d) e:=by
 cases e with
 | returned v =>
  obtain⟨h1,h2,h3,fn,h4,h5⟩:=h;exact⟨h1,h2,h3,fn,h4,Cc.jX (f:=0) h5 τ d⟩
 | panicked ch=>exact h
 | outgrown=>trivial
def ab2(P:Program):Ending->Prop
 | .returned _=>True
 | .panicked ch=>∀ v g,ch=[{v,recovered:=false,goexit:=g}]->¬ Uz P v
 | .outgrown=>False
theorem Pw{P:Program}{L:FuncId->Bool}{K:Op->Bool}{S:Nat->Prop}(hK:vB P L K)(hL:∀ f,L f=true->fK P f)(hT:Tk P L K){D:Nat->Prop}{f:FuncId}{args:Array Value}{w:World}{Rr:Ending->World->Prop}(hs:Self P L K true S D (Frame.enter P f args .normal) [] w)(hC:∀ τ d,Calls P f args (tp w τ d) Rr)(hE:∀ e w,Rr e w->ab2 P e)(hR:∀ e w τ d,Rr e w->Rr e (tp w τ d)):GT P L K S (fun fr cs w'=>(cs=[]/\fr.fn=f/\∃ e,Rr e w'/\ab2 P e/\fr.leaving P w' e)/\∃ D',Self P L K true S D' fr cs w'/\∀ a,D a->D' a) (Frame.enter P f args .normal) [] w:=by
 refine Bo hK hL hT hs (fun τ d=>?_) fun fr cs w τ d ⟨h1,h2,e,h3,h4,h5⟩=>⟨h1,h2,e,hR e w τ d h3,h4,PY h5 τ d⟩
 obtain⟨e,w',fr,hRe,hcomes,hfn,hleave⟩:=hC τ d [c0];have hEe:=hE e w' hRe;have hst:Steps P (lone (Frame.enter P f args .normal) [c0] (tp w τ d)) (lone fr [c0] w'):=by
  cases e with
  | returned v=>exact hcomes
  | panicked ch=>exact hcomes
  | outgrown=>exact hEe.elim
 refine⟨fr,[],w',hst,⟨rfl,hfn,e,hRe,hEe,hleave⟩,?_⟩;rintro⟨v,g,hm,hb⟩
 cases e with
 | returned u=>rw[hleave.1] at hm;cases hm
 | panicked ch =>
  rw[hleave.1] at hm
  cases hm
  exact hEe v g rfl hb
 | outgrown=>exact hEe.elim
end Sr
end
section
open Go.Conc
open Cc (tp Ai BW EA c0)
namespace Sr
def gB(P:Program)(Q:Exit->Act->World->Prop):List Code->Act->World->Prop
 | [],a,w=>Q .normal a w
 | c::l,a,w=>c.wp P (Exit.then (gB P Q l) Q) a w
def uE(P:Program):Exit->Prop
 | .normal|.ret=>True
 | .panic ch=>∀ v g,ch=[{v,recovered:=false,goexit:=g}]->¬ Uz P v
 | _=>False
def oN(b:Frame)(r:Code ⊕ Nat)(k:List Item):Exit->Act->Frame->Prop
 | .normal,a,fr=>fr=b.at a (fQ r []::k)
 | .ret,a,fr=>∃ todo,fr={b.at a todo with mode:=.returning}
 | .panic ch,a,fr=>∃ todo,fr={b.at a todo with mode:=.panicking ch}
 | _,_,_=>False
theorem QB{P:Program}{Q:Exit->Act->World->Prop}(hE:∀ e a w,Q e a w->uE P e):∀ {l:List Code}{a:Act}{w:World},gB P Q l a w->∀ b r k cs,∃ e a' fr w',Q e a' w'/\oN b (.inl r) k e a' fr/\Steps P (lone (b.at a (.code (dR l r)::k)) cs w) (lone fr cs w')
 | [],a,w,h,b,r,k,cs=>⟨.normal,a,_,w,h,rfl,Steps.refl P _⟩
 | c::l,a,w,h,b,r,k,cs=>by
  obtain⟨e,Δ,ω,hq,harr⟩:=h b (.code (dR l r)::k) cs;have s0:Steps P (lone (b.at a (.code (dR (c::l) r)::k)) cs w) (lone (b.at a (.code c::.code (dR l r)::k)) cs w):=.one step_seq
  cases e with
  | normal =>
   obtain⟨e₂,a₂,fr,ψ,hq₂,hat,hst⟩:=QB hE (show gB P Q l Δ ω from hq) b r k cs;exact⟨e₂,a₂,fr,ψ,hq₂,hat,s0.trans (Steps.trans harr hst)⟩
  | exit id=>exact(hE _ _ _ hq).elim
  | goto l=>exact(hE _ _ _ hq).elim
  | ret=>obtain⟨todo,hst⟩:=harr;exact⟨.ret,Δ,_,ω,hq,⟨todo,rfl⟩,s0.trans hst⟩
  | panic ch=>obtain⟨todo,hst⟩:=harr;exact⟨.panic ch,Δ,_,ω,hq,⟨todo,rfl⟩,s0.trans hst⟩
  | outgrown=>exact(hE _ _ _ hq).elim
structure bU(P:Program)(L:FuncId->Bool)(S:Nat->Prop)(D:Nat->Prop)(t:Array Value)(w:World):Prop where
 off:∀ b,S b->¬ D b/\b<w.heap.size
 gb:GB P (mQ D)
 bnd:∀ a,D a->a<w.heap.size
 heap:HR (mQ D) L w.heap w.heap
 tmps:AV (mQ D) L t t
theorem bU.tp{P:Program}{L:FuncId->Bool}{S D:Nat->Prop}{t:Array Value}{w:World}(h:bU P L S D t w)(τ:Nat->Question->Nat)(d:Nat):bU P L S D t (Cc.tp w τ d):=⟨h.off,h.gb,h.bnd,h.heap,h.tmps⟩
theorem bU.self{P:Program}{L:FuncId->Bool}{K:Op->Bool}{S D:Nat->Prop}{a:Act}{w:World}(h:bU P L S D a.tmps w){b:Frame}(hb:b.kind=.normal)(ha:a.defers=[]){t:List Item}(hi:Items P L K [] t):Self P L K true S D (b.at a t) [] w :=⟨h.off,h.gb,h.bnd,h.heap,.bot ⟨rfl,⟨_,h.tmps,rfl⟩,rfl,hi,⟨a.defers,(Qq _).symm,by show DL _ _ a.defers a.defers;rw[ha];exact .nil⟩,.run,rfl,.inl hb,.inl hb,rfl,rfl⟩ hb (fun _=>ha) fun z=>by cases z⟩
theorem BP{P:Program}{L:FuncId->Bool}{K:Op->Bool}{S:Nat->Prop}(hK:vB P L K)(hL:∀ f,L f=true->fK P f)(hT:Tk P L K){D:Nat->Prop}{b:Frame}{a:Act}{l:List Code}{w:World}{Q:Exit->Act->World->Prop}(hs:Self P L K true S D (b.at a [.code (dR l (.refuse ""))]) [] w)(hC:∀ τ d,gB P Q l a (tp w τ d))(hE:∀ e a w,Q e a w->uE P e)(hQ:∀ e a w τ d,Q e a w->Q e a (tp w τ d)):GT P L K S (fun fr cs w'=>(cs=[]/\∃ e a',Q e a' w'/\oN b (.inl (.refuse "")) [] e a' fr)/\∃ D',Self P L K true S D' fr cs w'/\∀ a,D a->D' a) (b.at a [.code (dR l (.refuse ""))]) [] w:=by
 refine Bo hK hL hT hs (fun τ d=>?_) fun fr cs w τ d ⟨h1,e,a',h2,h3⟩=>⟨h1,e,a',hQ e a' w τ d h2,h3⟩
 obtain⟨e,a',fr,w',hq,hat,hst⟩:=QB hE (hC τ d) b (.refuse "") [] [c0];refine⟨fr,[],w',hst,⟨rfl,e,a',hq,hat⟩,?_⟩;have hok:=hE e a' w' hq;rintro⟨v,g,hm,hb⟩
 cases e with
 | normal=>cases hat;cases hm
 | ret=>obtain⟨todo,rfl⟩:=hat;cases hm
 | panic ch =>
  obtain⟨todo,rfl⟩:=hat;have hm:FrameMode.panicking ch=.panicking [{v,recovered:=false,goexit:=g}]:=hm
  cases hm
  exact hok v g rfl hb
 | _=>exact hat.elim
section
variable {P:Program}{L:FuncId->Bool}{K:Op->Bool}{S:Nat->Prop}{Φ Ψ:Frame->List Frame->World->Prop}{fr:Frame}{cs:List Frame}{w:World}
theorem GW.zl(h:GW P L S Φ fr cs w)(τ:Nat->Question->Nat)(d:Nat):GW P L S Φ fr cs (Cc.tp w τ d):=by
 cases h with
 | stop h=>exact .stop fun jH d'=>h jH d'
 | step hn hne fr' cs' w' es h hq ht=>exact .step hn hne fr' cs' w' es (fun jH d'=>h jH d') hq ht
theorem GW.ctl{fr':Frame}{cs':List Frame}(hok:dS P L false fr)(hne:cs=[]->fr.mode=.run\/fr.defers≠[])(h:∀ w,stepG P false (G fr cs) w=.go (G fr' cs') w #[])(hn:GW P L S Φ fr' cs' w):GW P L S Φ fr cs w :=GW.step' hok hne fun τ d=>⟨fr',cs',_,#[],h _,.nil,hn.zl τ d⟩
theorem sZ{D:Nat->Prop}{fr:Frame}(h:Self P L K true S D fr [] w):bU P L S D fr.tmps w/\fr.defers=[]:=by
 refine⟨⟨h.off,h.gb,h.bnd,h.heap,?_⟩,?_⟩
 .cases h.sl with
  | bot h _ _ _=>obtain⟨tm,h1,h2⟩:=h.tmps;have h2:fr.tmps=tm:=h2;rw[<-h2] at h1;exact h1
 .cases h.sl with
  | bot _ _ hz _=>exact hz rfl
end
end Sr
end
section
open Go.Conc
namespace Sr
def tk(P:Program)(L:FuncId->Bool)(o:Op):Bool:=bT P L o&&match o with
 | .defer _|.select ..=>false
 | .call c=>match c.callee with
  | .builtin .recover=>false
  | _=>true
 | _=>true
theorem afG(P:Program)(L L':FuncId->Bool)(hm:∀ o,bT P L o=true->bT P L' o=true):Tk P L' (tk P L):=by
 intro o h;unfold tk at h;rw[fE] at h;refine⟨hm _ h.1,fun c e=>?_,fun c b e=>?_,fun c e e'=>?_⟩
 .subst e;exact absurd h.2 (by simp)
 .subst e;exact absurd h.2 (by simp)
 .subst e;have:=h.2;simp only[e'] at this
  cases this
def abj(P:Program)(L:List FuncId)(K:Op->Bool):Bool:=L.all fun f=>match P.funcs[f]? with
 | some fn=>match fn.body with
  | some c=>kg P L.contains K [] c
  | none=>true
 | none=>true
theorem VB{P:Program}{L:List FuncId}{K:Op->Bool}(h:abj P L K=true):vB P L.contains K:=by
 intro f hf fn c hfn hb;unfold abj at h;rw[Ej] at h;have:=h f (by simpa using hf);rw[hfn] at this;simp only[hb] at this;exact this
def fnB(P:Program)(L:List FuncId):Bool:=L.all fun f=>match P.funcs[f]? with
 | some fn=>!(fn.name == "runtime.NumGoroutine")&&fn.body.isSome
 | none=>false
theorem Jw{P:Program}(few:P.funcs.size<=1000000000){L M:List FuncId}(h:fnB P L=true)(hM:∀ f∈M,fK P f):∀ f,(L++M).contains f=true->fK P f:=by
 intro f hf;have hf:f∈L++M:=by simpa using hf
 rcases UY.1 hf with hf|hf
 .unfold fnB at h;rw[Ej] at h;have:=h f hf
  cases hfn:P.funcs[f]? with
  | none=>rw[hfn] at this;cases this
  | some fn =>
   rw[hfn] at this;simp only[fE,Bool.not_eq_true'] at this;obtain⟨c,hc⟩:=qbM.1 this.2;refine⟨.inr ⟨fn,hfn,this.1,.inl ⟨c,hc⟩⟩,fun t e=>?_⟩;have h1:f<P.funcs.size:=(fT.1 hfn).1;subst e;have h1:2*t+1000000000<P.funcs.size:=h1;omega
 .exact hM f hf
section
variable {P:Program}{L L':FuncId->Bool}
theorem bE(h:∀ f,L f=true->L' f=true){x:Operand}(hx:jL P L x=true):jL P L' x=true:=by
 cases x <;> first|exact hx|exact h _ hx
theorem xg(h:∀ f,L f=true->L' f=true){l:List Operand}(hl:l.all (jL P L)=true):l.all (jL P L')=true:=by
 rw[Ej] at hl ⊢;exact fun x hx=>bE h (hl x hx)
theorem wu(h:∀ f,L f=true->L' f=true){x:Option Operand}(hx:okO P L x=true):okO P L' x=true:=by
 cases x with
 | none=>rfl
 | some x=>exact bE h hx
theorem Ew(h:∀ f,L f=true->L' f=true){ps:Array (Nat×Operand)}(hp:qI P L ps=true):qI P L' ps=true:=by
 unfold qI at hp ⊢;rw[Ej] at hp ⊢;exact fun x hx=>bE h (hp x hx)
theorem FL(h:∀ f,L f=true->L' f=true){c:Call}(hc:pY P L c=true):pY P L' c=true:=by
 unfold pY at hc ⊢;rw[fE] at hc ⊢;refine⟨xg h hc.1,?_⟩;have h2:=hc.2
 cases hcc:c.callee with
 | value f=>rw[hcc] at h2;exact bE h h2
 | invoke r m=>rw[hcc] at h2;exact h2
 | builtin b=>rw[hcc] at h2;cases b <;> exact h2
theorem IC(h:∀ f,L f=true->L' f=true){c:Call}(hc:uw P L c=true):uw P L' c=true:=by
 unfold uw at hc ⊢;rw[fE] at hc ⊢;refine⟨xg h hc.1,?_⟩;have h2:=hc.2
 cases hcc:c.callee with
 | value f=>rw[hcc] at h2;exact bE h h2
 | invoke r m=>rw[hcc] at h2;exact h2
 | builtin b=>rfl
theorem Gz(h:∀ f,L f=true->L' f=true)(ht:∀ t:Nat,L' (2*t+1000000000)=true->L (2*t+1000000000)=true){o:Op}(ho:bT P L o=true):bT P L' o=true:=by
 cases o with
 | call c=>exact FL h ho
 | defer c=>exact IC h ho
 | select cs b =>
  simp only[bT,Ej,fE] at ho ⊢;exact fun s hs=>⟨⟨bE h (ho s hs).1.1,wu h (ho s hs).1.2⟩,(ho s hs).2⟩
 | makeMap t r=>cases r <;> first|rfl|exact ho
 | makeFunc fn a b =>
  simp only[bT,fE] at ho ⊢;refine⟨⟨xg h ho.1.1,xg h ho.1.2⟩,?_⟩
  cases fn <;> first|exact h _ ho.2|exact ho.2
 | build t ps=>simp only[bT,fE] at ho ⊢;exact⟨ho.1,Ew h ho.2⟩
 | buildSlice t n ps=>simp only[bT,fE] at ho ⊢;exact⟨Ew h ho.1,ho.2⟩
 | slice t x lo hi mx=>simp only[bT,fE] at ho ⊢;exact⟨⟨⟨bE h ho.1.1.1,wu h ho.1.1.2⟩,wu h ho.1.2⟩,wu h ho.2⟩
 | alloc t=>exact ho
 | pick a b c=>simp only[bT,fE] at ho ⊢;exact⟨⟨bE h ho.1.1,bE h ho.1.2⟩,bE h ho.2⟩
 | store t a x=>simp only[bT,fE] at ho ⊢;exact⟨bE h ho.1,bE h ho.2⟩
 | binOp b t x y t2=>simp only[bT,fE] at ho ⊢;exact⟨bE h ho.1,bE h ho.2⟩
 | convert s d x=>simp only[bT,fE] at ho ⊢;exact⟨ho.1,bE h ho.2⟩
 | makeSlice t n c=>simp only[bT,fE] at ho ⊢;exact⟨⟨bE h ho.1.1,bE h ho.1.2⟩,ho.2⟩
 | indexAddr t x i=>simp only[bT,fE] at ho ⊢;exact⟨bE h ho.1,bE h ho.2⟩
 | index t x i=>simp only[bT,fE] at ho ⊢;exact⟨bE h ho.1,bE h ho.2⟩
 | lookup t x i c=>simp only[bT,fE] at ho ⊢;exact⟨⟨bE h ho.1.1,bE h ho.1.2⟩,ho.2⟩
 | mapUpdate t m k x=>simp only[bT,fE] at ho ⊢;exact⟨⟨⟨bE h ho.1.1.1,bE h ho.1.1.2⟩,bE h ho.1.2⟩,ho.2⟩
 | typeAssert x t a ok =>
  simp only[bT,fE] at ho ⊢;refine⟨⟨⟨ho.1.1.1,bE h ho.1.1.2⟩,ho.1.2⟩,?_⟩
  cases hl:L' (2*a+1000000000) with
  | false=>rfl
  | true=>have:=ho.2;rw[ht a hl] at this;cases this
 | _=>first|exact bE h ho|exact ho
theorem OE(h:∀ f,L f=true->L' f=true)(ht:∀ t:Nat,L' (2*t+1000000000)=true->L (2*t+1000000000)=true){Z:Bool}{fr:Frame}(hn:dS P L Z fr):dS P L' Z fr:=by
 unfold dS at hn ⊢
 cases hm:fr.mode with
 | run =>
  rw[hm] at hn;exact fun ops i l k o h1 h2 h3=>⟨Gz h ht (hn ops i l k o h1 h2 h3).1,(hn ops i l k o h1 h2 h3).2⟩
 | returning=>rw[hm] at hn;exact hn
 | panicking ch=>rw[hm] at hn;exact hn
theorem jQ(h:∀ f,L f=true->L' f=true){K:Op->Bool}{l:List (Nat×Value)}:∀ {c:Code},kg P L K l c=true->kg P L' K l c=true
 | .skip,_|.exit _,_|.label _,_|.goto _,_|.ret,_|.refuse _,_=>rfl
 | .region _ ops _,hc=>hc
 | .seq a b,hc=>by
  unfold kg at hc ⊢;rw[fE] at hc ⊢;exact⟨jQ h hc.1,jQ h hc.2⟩
 | .cond c a b,hc=>by
  unfold kg at hc ⊢;simp only[fE] at hc ⊢;exact⟨⟨⟨bE h hc.1.1.1,hc.1.1.2⟩,jQ h hc.1.2⟩,jQ h hc.2⟩
 | .block _ a,hc=>by unfold kg at hc ⊢;exact jQ h hc
 | .loop a,hc=>by unfold kg at hc ⊢;exact jQ h hc
 | .scope a,hc=>by unfold kg at hc ⊢;exact jQ h hc
 | .rangeFunc ..,hc=>by cases hc
theorem GW.mono{S:Nat->Prop}{Φ:Frame->List Frame->World->Prop}(h:∀ f,L f=true->L' f=true)(hty:∀ t:Nat,L' (2*t+1000000000)=true->L (2*t+1000000000)=true){fr:Frame}{cs:List Frame}{w:World}(hg:GW P L S Φ fr cs w):GW P L' S Φ fr cs w:=by
 induction hg with
 | stop h=>exact .stop h
 | step hn hne fr' cs' w' es hs hq ht ih=>exact .step (OE h hty hn) hne fr' cs' w' es hs hq ih
end
end Sr
end
section
section
variable {P:Program}{ops:Array Oper}{rest:List Oper}{o:Oper}{a:Act}{w:World}{Q:Exit->Act->World->Prop}
theorem Ko(hg:o.guard=none)(w':World)(h:(execOp a.eval o).run P w=.ok .skip w')(hk:wpList P ops Q rest (a.put o.dst undef) w'):wpList P ops Q (o::rest) a w :=wpList_plain hg fun K hK=>by unfold Oper.wp;rw[h];exact hK _ _ hk
theorem wpList_store_row(hgd:o.guard=none)(ty:TypeId)(x y:Operand)(ho:o.op=.store ty x y)(g:Nat)(hx:a.eval x=.pointer (some ⟨g,0,none⟩))(cs:Array Value)(hy:a.eval y=.agg cs)(old:Array Value)(t:TypeId)(hh:w.heap[g]? = some (.cells old t (0,0)))(hsz:old.size=cs.size)(hi:(P.info? ty).map (·.size)=some cs.size)(h1:∀ u∈cs.toList,u.oneCell'=true)(h:wpList P ops Q rest (a.put o.dst undef) (w.setRow g cs)):wpList P ops Q (o::rest) a w:=by
 refine Ko hgd (w.setRow g cs) ?_ h;obtain⟨i,hi',hs'⟩:=zA.1 hi;have hr:=run_storeCells_at (P:=P) g 0 t cs.toList 0 old w hh (by simp[hsz]) h1;have e:(old.toList.take (0+0)++cs.toList++old.toList.drop (0+0+cs.toList.length)).toArray=cs:=by
  simp[qa9,hsz]
 rw[e] at hr;simp[execOp,ho,hx,hy,Instr.storeAt,Instr.sureAddr,storeVar,sizeOf,typeInfo,hi',hs',Value.cells,hr,Result.andThen]
theorem bV(hgd:o.guard=none)(t:TypeId)(ho:o.op=.alloc t)(z:Array Value)(hz:(P.info? t).bind (·.zero)=some (.agg z))(h:wpList P ops Q rest (a.put o.dst (.pointer (some ⟨w.heap.size,0,none⟩))) (w.alloc (.cells z t))):wpList P ops Q (o::rest) a w:=by
 refine bI hgd _ _ ?_ h;obtain⟨i,hi,h0⟩:=qbc.1 hz;simp[execOp,ho,Instr.alloc,zeroValue,typeInfo,hi,h0,newVar,newRow,Value.cells,Result.andThen]
theorem CO(hgd:o.guard=none)(t:TypeId)(ho:o.op=.build t #[])(z:Array Value)(hz:∀ w,(Instr.build t #[]).run P w=.ok (.agg z) w)(h:wpList P ops Q rest (a.put o.dst (.agg z)) w):wpList P ops Q (o::rest) a w:=by
 refine bI hgd _ _ ?_ h;simp[execOp,ho,hz,Result.andThen]
theorem dO(hgd:o.guard=none)(t:TypeId)(x:Operand)(ho:o.op=.box t x)(cs:Array Value)(hx:a.eval x=.agg cs)(h:wpList P ops Q rest (a.put o.dst (.pointer (some ⟨w.heap.size,0,none⟩))) (w.alloc (.cells cs t))):wpList P ops Q (o::rest) a w:=by
 refine bI hgd _ _ ?_ h;simp[execOp,ho,hx,Instr.box,newVar,newRow,Value.cells,Result.andThen]
theorem qQ(w:World)(z cs:Array Value)(t:TypeId):(w.alloc (.cells z t)).setRow w.heap.size cs=w.alloc (.cells cs t):=by
 unfold World.setRow World.alloc;congr 1;apply qcv;intro k;simp only[qa3,Qi];by_cases hk:w.heap.size=k
 .subst hk;simp
 .have hk2:¬ k=w.heap.size:=fun h=>hk h.symm
  simp[hk,hk2]
theorem kC(hgd:o.guard=none)(ty:TypeId)(x y:Operand)(ho:o.op=.store ty x y){w0:World}{old:Array Value}{t:TypeId}(b:Nat)(hx:a.eval x=.pointer (some ⟨b,0,none⟩))(cs:Array Value)(hy:a.eval y=.agg cs)(hb:w0.heap.size=b)(hsz:old.size=cs.size)(hi:(P.info? ty).map (·.size)=some cs.size)(h1:∀ u∈cs.toList,u.oneCell'=true)(h:wpList P ops Q rest (a.put o.dst undef) (w0.alloc (.cells cs t))):wpList P ops Q (o::rest) a (w0.alloc (.cells old t)):=by
 subst hb;refine wpList_store_row hgd ty x y ho w0.heap.size hx cs hy old t (heap_alloc_new w0 _) hsz hi h1 ?_;rw[qQ];exact h
theorem Below.setRow{B:Nat}{a w:World}(h:Below B a w){g:Nat}(hg:B<=g)(cs:Array Value):Below B a (w.setRow g cs) :=h.trans ⟨rfl,rfl,rfl,by simp,fun k hk=>setRow_other w g k cs (by omega)⟩
theorem VQ{w w':World}{base:Nat}{e:TypeId}{sz:Nat}{v:Value}{n:Nat}{xs:List Value}(h:w.ownsRow base e sz v n xs)(hk:∀ k,base<=k->k<w.heap.size->w'.heap[k]? = w.heap[k]?):w'.ownsRow base e sz v n xs:=by
 obtain⟨h1,h2⟩:=h;refine⟨h1,?_⟩;rcases h2 with h2|⟨g,cap,cur,hv,hg,hh,r⟩
 .exact Or.inl h2
 .exact Or.inr ⟨g,cap,cur,hv,hg,by rw[hk g hg (fT.1 hh).1];exact hh,r⟩
end
end
section
section
variable {P:Program}{ops:Array Oper}{rest:List Oper}{o:Oper}{a:Act}{w:World}{Q:Exit->Act->World->Prop}{K:Act->World->Prop}
theorem foldl_set(k:Nat):∀ (l:List Value)(i:Nat)(z:Array Value),k+i+l.length<=z.size -> (l.zipIdx i).foldl (fun (cs:Array Value)(p:Value×Nat)=>cs.setIfInBounds (k+p.2) p.1) z=(z.toList.take (k+i)++l++z.toList.drop (k+i+l.length)).toArray
 | [],i,z,_=>by simp
 | v::l,i,z,h=>by
  have hi:k+i<z.toList.length:=by simp at h ⊢;omega
  rw[List.zipIdx_cons,Xu,foldl_set k l (i+1) _ (by simp at h ⊢;omega)];congr 1;have e:=list_seg_step z.toList (k+i) v l (by simp at h ⊢;omega);simpa[Array.toList_setIfInBounds,Zu] using e
theorem fill_whole(z cs:Array Value)(sz:Nat)(hz:z.size=sz)(hc:cs.size=sz):Instr.fill (fun i=>some (i*sz,sz)) z [(0,.agg cs)]=some cs:=by
 have h:=foldl_set 0 cs.toList 0 z (by simp;omega);have e:(z.toList.take (0+0)++cs.toList++z.toList.drop (0+0+cs.toList.length)).toArray=cs:=by
  rw[qa9 (by simp;omega)];simp
 rw[e] at h;simp only[Instr.fill,Value.cells,Nat.zero_mul,hc];rw[if_neg (by simp[hz])];congr 1;rw[<-qb4];simpa using h
theorem zo(hgd:o.guard=none)(t:TypeId)(x:Operand)(ho:o.op=.buildSlice t 1 #[(0,x)]){e:TypeId}{z:Array Value}(ht:P.underlying t=some (.slice e))(cs:Array Value)(hi:(P.info? e).map (fun i=>(i.zero,i.size))=some (some (.agg z),cs.size))(hzs:z.size=cs.size)(hpos:0<cs.size)(hlim:cs.size<=16777216)(hx:a.eval x=.agg cs)(h:wpList P ops Q rest (a.put o.dst (.slice (some ⟨w.heap.size,0,none⟩) 1 1)) (w.alloc (.cells cs e))):wpList P ops Q (o::rest) a w:=by
 refine bI hgd _ _ ?_ h;obtain⟨i,hi',hh⟩:=zA.1 hi;simp only[MV] at hh;obtain⟨h0,h1⟩:=hh;have hne:¬ cs.size=0:=by omega
 have Yv:¬ 16777216<cs.size:=by omega
 have hf:=fill_whole ((Array.range (1*cs.size)).map (z[·%z.size]!)) cs cs.size (by simp) rfl;simp only[Nat.one_mul] at hf;simp[execOp,ho,hx,Instr.buildSlice,run_underlying ht,sizeOf,zeroValue,typeInfo,hi',h0,h1,hne,Yv,Value.cells,hf,newRow,Result.andThen]
theorem rX(ty:TypeId)(p:Addr)(cs:List Value)(d:TypeDesc)(hu:P.underlying ty=some d)(hd:(match d with|.struct _|.array _ _=>true|_=>false)=true)(hi:(P.info? ty).map (·.size)=some cs.length)(hc:∀ j v,cs[j]? = some v->w.cell? (p.add j)=some v):(loadVar ty p).run P w=.ok (.agg cs.toArray) w:=by
 obtain⟨i,hi',hs⟩:=zA.1 hi;have hl:=run_loadCells_list (P:=P) w p cs hc;have hagg:(isAgg ty).run P w=.ok true w:=by
  unfold isAgg;rw[Sem.run_bind,run_underlying hu w]
  cases d <;> simp_all
 simp[loadVar,hagg,sizeOf,typeInfo,hi',hs,hl,Result.andThen]
end
end
section
open Go.Conc
namespace Cc
section
variable {P:Program}{main:Bool}{R:World->World->Prop}{D:World->World->Array Event->Prop}{Stop:Goroutine->World->Prop}{b:Frame}{a:Act}{k:List Item}{cs:List Frame}{w:World}{ops:Array Oper}{i:Nat}{rest:List Nat}{o:Oper}{n:Nat}
end
section
variable {P:Program}{main:Bool}{R:World->World->Prop}{D:World->World->Array Event->Prop}{Stop:Goroutine->World->Prop}{b:Frame}{a:Act}{k:List Item}{cs:List Frame}{w:World}{ops:Array Oper}{i:Nat}{rest:List Nat}{o:Oper}{n:Nat}
theorem Iq{x:Operand}(hop:o.op=.move x)(w:World):(execOp a.eval o).run P w=.ok (.value (a.eval x)) w/\(execOp a.eval o).events P w #[]=#[]:=by
 unfold execOp;simp only[hop];exact⟨rfl,rfl⟩
theorem ze{x:Operand}(hop:o.op=.assign x)(w:World):(execOp a.eval o).run P w=.ok (.value (a.eval x)) w/\(execOp a.eval o).events P w #[]=#[]:=by
 unfold execOp;simp only[hop];exact⟨rfl,rfl⟩
theorem eP{x:Operand}{j:Nat}{vs:Array Value}{v:Value}(hop:o.op=.extract x j)(hx:a.eval x=.tuple vs)(hv:vs[j]? = some v)(w:World):(execOp a.eval o).run P w=.ok (.value v) w/\(execOp a.eval o).events P w #[]=#[]:=by
 unfold execOp;simp[hop,hx,Instr.extract,hv,Result.andThen]
end
end Cc
end
end Go.Proofs.YtdbgldieilgnmaaGreatDoor
