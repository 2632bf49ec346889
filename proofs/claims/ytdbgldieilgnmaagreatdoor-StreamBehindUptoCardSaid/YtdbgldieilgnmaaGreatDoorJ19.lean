/- J19 -/
import Derived.Test.YtdbgldieilgnmaaGreatDoorJ18
set_option linter.unusedVariables false
set_option linter.unusedSimpArgs false
set_option maxHeartbeats 8000000
set_option maxRecDepth 100000
namespace Go.Proofs.YtdbgldieilgnmaaGreatDoor
open Go.Proofs.Tryz
open Go.Proofs.Tryz renaming prog → qp0
open Go.ChangeShapes Go.WideShapes Go.ChangeAt Go.RowKit
open Go renaming undef → au
section
open Go.Conc
open Cc (tp)
namespace St
open Sr (GW WS qY Qt bT kg vB fK Tk gB dR fQ bU over iM dW kW uE oN)
open Gr (gJ aN)
variable {ε:Nat×Nat}
theorem Vn:vB qp0 (dW ε) kW:=Sr.aeo ε
theorem Ud:∀ f,(dW ε) f=true->fK qp0 f:=Sr.adH ε
theorem WG:Tk qp0 (dW ε) kW:=Sr.ae3 ε
theorem I6:∀ f,(dW ε) f=true->(iM ε) f=true:=Sr.Rc ε
theorem H7:∀ t:Nat,(iM ε) (2*t+1000000000)=true->(dW ε) (2*t+1000000000)=true:=Sr.Vy ε
section
variable (lb qb:Nat)(F9 x:Value)
theorem Sd:kg qp0 (dW ε) Sr.kW [] (dR DN (.refuse ""))=true:=by kernel_rfl
theorem Qc:kg qp0 (dW ε) Sr.kW (mk lb qb F9 x) (dR DN (.refuse ""))=true:=by kernel_rfl
theorem afb:kg qp0 (dW ε) Sr.kW [] (dR [c14] (.refuse ""))=true:=by kernel_rfl
theorem adX:kg qp0 (dW ε) Sr.kW (mk lb qb F9 x) (dR [c14] (.refuse ""))=true:=by kernel_rfl
theorem ae0:kg qp0 (dW ε) Sr.kW [] (dR [c16] (.refuse ""))=true:=by kernel_rfl
theorem acI:kg qp0 (dW ε) Sr.kW (mk lb qb F9 x) (dR [c16] (.refuse ""))=true:=by kernel_rfl
theorem afz:kg qp0 (dW ε) Sr.kW [] (dR [c17,c18] (.refuse ""))=true:=by kernel_rfl
theorem adl:kg qp0 (dW ε) Sr.kW (mk lb qb F9 x) (dR [c17,c18] (.refuse ""))=true:=by kernel_rfl
theorem aeC:kg qp0 (dW ε) Sr.kW [] c15=true:=by kernel_rfl
theorem acs:kg qp0 (dW ε) Sr.kW (mk lb qb F9 x) c15=true:=by kernel_rfl
theorem afW:kg qp0 (dW ε) Sr.kW [] c13=true:=by kernel_rfl
theorem acG:kg qp0 (dW ε) Sr.kW (mk lb qb F9 x) c13=true:=by kernel_rfl
theorem afu:kg qp0 (dW ε) Sr.kW [] c20=true:=by kernel_rfl
theorem adf:kg qp0 (dW ε) Sr.kW (mk lb qb F9 x) c20=true:=by kernel_rfl
end
theorem Bz(c:Int):uE qp0 (.panic (mK c)):=by
 intro v g h hb;unfold mK at h;simp only[qbo,PanicEntry.mk.injEq,and_true] at h;obtain⟨h1,_⟩:=h;subst h1;rcases hb with h|⟨u,h⟩
 .cases h
 .injection h with h1 h2;have hb:(179==qp0.rt.panicNilError)=false:=by kernel_rfl
  rw[<-h1] at hb;simp at hb
def Yu(ε:Nat×Nat)(C:Cn)(rb lb qb c:Nat)(F9:Value)(ds:List Deferred)(S:Nat->Prop)(code:Int)(off:Nat)(held:Int)(vs:List Value)(es:List En)(fr:Frame)(w:World):Prop :=∃ (t:Array Value)(x:Value)(todo:List Item)(A:Ad)(s:bW)(D:Nat->Prop),s.held=held/\Wk (C.tp w.tape) A off s w/\Fx C rb lb qb c w/\qH w C.w0.heap.size vs es/\bU qp0 (dW ε) S D t w/\D rb /\
  ((code≠0/\fr={bR.at ⟨over (mk lb qb F9 x) t,ds⟩ todo with mode:=.panicking (mK code)})\/(code=0/\fr={bR.at ⟨over (mk lb qb F9 x) t,ds⟩ todo with mode:=.returning}))
def H14(rb:Nat)(f:Nat->Value)(t:Nat)(x:Bool)(w:World)(e:Exit)(a:Act)(w':World):Prop :=e=.normal/\Fm rb a/\a.tmps.getD 5 au=f 5/\a.tmps.getD 7 au=f 7/\a.tmps.getD t au=.bool x/\∃ τ d,w'=tp w τ d
theorem H14.of{rb:Nat}{f:Nat->Value}{t:Nat}{x:Bool}{w:World}{τ:Nat->Question->Nat}{d:Nat}{e:Exit}{a:Act}{w':World}(h:Q14 rb f t x (tp w τ d) e a w'):H14 rb f t x w e a w':=by
 obtain⟨h1,h2,h3,h4,h5,h6⟩:=h;exact⟨h1,h2,h3,h4,h5,τ,d,h6⟩
def H13(w:World)(e:Exit)(a:Act)(w':World):Prop:=e=.panic (mK 73)/\∃ τ d,w'=tp w τ d
theorem GL{P:Program}{L:FuncId->Bool}{S D:Nat->Prop}{t:Array Value}{w:World}{τ:Nat->Question->Nat}{d:Nat}(h:bU P L S D t (tp w τ d)):bU P L S D t w:=⟨h.off,h.gb,h.bnd,h.heap,h.tmps⟩
theorem YB{P:Program}{L:FuncId->Bool}{S D:Nat->Prop}{t:Array Value}{w:World}(h:bU P L S D t w){j eb:Nat}{xs:Array Value}{ty:TypeId}(hj:t.getD j au=.pointer (some ⟨eb,0,none⟩))(hr:w.heap[eb]? = some (.cells xs ty)):Sr.VR (Sr.mQ D) L (.agg xs) (.agg xs):=by
 have h1:=h.tmps.getD j Sr.dG;rw[hj] at h1
 cases h1 with
 | ptr _ _ hab =>
  have h2:=h.heap _ _ hab.1;rw[hr] at h2
  cases h2 with
  | some h3=>cases h3 with
   | cells _ _ _ _ AY=>exact .agg _ _ AY.1 AY.2
theorem su{P:Program}{L:FuncId->Bool}{S D:Nat->Prop}{t:Array Value}{w:World}(h:bU P L S D t w){j b:Nat}(hj:t.getD j au=.pointer (some ⟨b,0,none⟩)):D b:=by
 have h1:=h.tmps.getD j Sr.dG;rw[hj] at h1
 cases h1 with
 | ptr _ _ hab=>exact hab.1.2
theorem Oq{P:Program}{L:FuncId->Bool}{S D:Nat->Prop}{t:Array Value}{w:World}(h:bU P L S D t w)(ob:Obj):bU P L S D t (w.alloc ob):=by
 have hsz:(w.alloc ob).heap.size=w.heap.size+1:=qb3 ..;have hb:∀ i,i<w.heap.size->(w.alloc ob).heap[i]? = w.heap[i]?:=fun i hi=>by
  have:=(Below.refl w.heap.size w).alloc (aY _) ob;exact this.block i hi
 refine⟨fun b hS=>⟨(h.off b hS).1,by have:=(h.off b hS).2;omega⟩,h.gb,fun a ha=>by have:=h.bnd a ha;omega,⟨fun a b hab=>?_,fun b Zh=>?_,h.heap.Af⟩,h.tmps⟩
 .have h1:=h.bnd a hab.2;have h2:b<w.heap.size:=by have:=hab.1;subst this;exact h1
  rw[hb a h1,hb b h2];exact h.heap a b hab
 .obtain⟨x,e,h1,h2⟩:=h.heap.opq b Zh;have:=hb b (fT.1 h1).1;exact⟨x,e,this.trans h1,this.trans h2⟩
theorem BD{P:Program}{L:FuncId->Bool}{S D:Nat->Prop}{t:Array Value}{w:World}(h:bU P L S D t w)(j:Nat){v:Value}(hv:Sr.VR (Sr.mQ D) L v v):bU P L S D (t.setIfInBounds j v) w:=⟨h.off,h.gb,h.bnd,h.heap,h.tmps.set j hv⟩
section
variable {S:Nat->Prop}{c:Nat}{Φ:Frame->List Frame->World->Prop}
theorem XD{C:Cn}(hC:C.Ok)(rb lb qb:Nat)(F9 x:Value)(ds:List Deferred){cs:List Frame}(hB:cs≠[]){o:Nat}{s:bW}{A:Ad}{w:World}{D:Nat->Prop}{t:Array Value}{vs:List Value}{es:List En}{size:Int}(hw:Wk (C.tp w.tape) A o s w)(hx:Fx C rb lb qb c w)(hes:qH w C.w0.heap.size vs es)(hst:bU qp0 (dW ε) S D t w)(ht:t.size=113)(ht2:t.getD 2 au=.pointer (some ⟨rb,0,none⟩))(h7:t.getD 7 au=.int .i64 size)(hs:size<9223372036854775808)(hle:Plain.next o size<=C.dn)(next:∀ (w':World)(D':Nat->Prop)(t':Array Value),Wk (C.tp w'.tape) A (Plain.next o size) s w'->Fx C rb lb qb c w'->qH w' C.w0.heap.size vs es->bU qp0 (dW ε) S D' t' w'->t'.size=113->t'.getD 2 au=.pointer (some ⟨rb,0,none⟩)->GW qp0 (iM ε) S Φ (bR.at ⟨over (mk lb qb F9 x) t',ds⟩ [.code LB,.inLoop LB,.inBlock 0]) cs w'):GW qp0 (iM ε) S Φ (bR.at ⟨over (mk lb qb F9 x) t,ds⟩ [.code c20,.inBlock 1,.inLoop LB,.inBlock 0]) cs w:=by
 refine GW.pt (Q:=Gp C w (fun C' w'=>Q20 C' A (Plain.next o size) s rb w')) (r:=.inr 1) (a:=⟨t,[]⟩) I6 H7 Vn Ud WG ds (mk lb qb F9 x) (.inl rfl) rfl afu (adf lb qb F9 x) hB hst (fun τ d=>?_) (fun e a' w' hq=>?_) (fun e a' w' τ d hq=>hq.tp τ d) fun e a' fr w1 D1 hq ME hD1 hat=>?_
 .have h1:=adz (C.tp τ) (hC.tp τ) A o s rb size (fun i=>t.getD i au) (tp w τ d) (hw.shift τ d) ⟨hx.bx.row⟩ h7 hs hle (Plain.gy _);rw[<-nR t rb ht ht2] at h1;exact iH (fun e a w' hq jH d'=>hq.shift jH d') h1
 .have hq:=hq.now
  cases e with
  | normal=>trivial
  | _=>exact hq.elim
 .have hq1:=hq.now
  cases e with
  | normal =>
   obtain⟨hfm,hch,hwk⟩:=hq1
   cases hat
   refine .inBlock ?_;refine .inLoop ?_;exact next w1 D1 a'.tmps hwk (hx.chg hch) (hes.keep fun e x=>Bu (hw.shift w1.tape 0) hch e x) ME hfm.size hfm.box
  | _=>exact hq1.elim
end
section
variable {K:Op->Bool}{S:Nat->Prop}{c:Nat}{Sh:Value->Prop}{fU:List Value->World->Prop}
theorem Ny{C:Cn}(hC:C.Ok)(rb lb qb:Nat)(F9:Value)(ds:List Deferred){cs:List Frame}(hB:cs≠[])(U2:∀ e x,Sh (.agg (sS (e,x)))):∀ (f o:Nat)(s:bW)(A:Ad)(w:World)(D:Nat->Prop)(t:Array Value)(x:Value)(vs:List Value)(es:List En),
  C.data.length-o<f->Wk (C.tp w.tape) A o s w->Fx C rb lb qb c w->qH w C.w0.heap.size vs es->bU qp0 (dW ε) S D t w->t.size=113->t.getD 2 au=.pointer (some ⟨rb,0,none⟩) ->
  (∀ vs' fr' w',Yu ε C rb lb qb c F9 ds S (Plain.fC C.data C.lim f o s).code (Plain.fC C.data C.lim f o s).off (Plain.fC C.data C.lim f o s).held vs' (es++(Plain.fC C.data C.lim f o s).ents) fr' w'->WS qp0 (iM ε) K S c Sh fU 0 vs' fr' cs w') ->
  WS qp0 (iM ε) K S c Sh fU (Plain.fC C.data C.lim f o s).ents.length vs (bR.at ⟨over (mk lb qb F9 x) t,ds⟩ [.code LB,.inLoop LB,.inBlock 0]) cs w
 | 0,o,s,A,w,D,t,x,vs,es,hf,_,_,_,_,_,_,_=>by omega
 | f+1,o,s,A,w,D,t,x,vs,es,hf,hw,hx,hes,hst,ht,ht2,hfin=>by
  have hdl:C.data.length=C.dn:=hC.dat.len;refine(Sr.gT ..).2 ?_;rw[aeT];refine .block ?_;rw[aaz];refine GW.pc (Q:=Gp C w (fun C' w'=>Q1 C' A o s rb w')) (r:=.inl yV) (a:=⟨t,[]⟩) I6 H7 Vn Ud WG trivial ds (mk lb qb F9 x) (.inl rfl) rfl Sd (Qc lb qb F9 x) hB hst (fun τ d=>?_) (fun e a' w' hq=>?_) (fun e a' w' τ d hq=>hq.tp τ d) fun e a' fr w1 D1 hq ME hD1 hat=>?_
  .have h1:=Sc (C.tp τ) (hC.tp τ) A o s rb (fun i=>t.getD i au) (tp w τ d) (hw.shift τ d) ⟨hx.bx.row⟩;rw[<-nR t rb ht ht2] at h1;exact iH (fun e a w' hq jH d'=>hq.shift jH d') h1
  .have hq:=hq.now;obtain⟨_,_,h3⟩:=hq
   cases e with
   | normal=>trivial
   | ret=>trivial
   | panic ch=>obtain⟨c,_,_,rfl,_⟩:=h3;exact Bz c
   | _=>exact h3.elim
  .have hq1:=hq.now;obtain⟨had,hch,h3⟩:=hq1;have hx1:Fx C rb lb qb c w1:=hx.chg hch;have Y3:qH w1 C.w0.heap.size vs es:=hes.keep fun e x=>Bu (hw.shift w1.tape 0) hch e x
   cases e with
   | panic ch =>
    obtain⟨cd,hne,hs,rfl,hwk⟩:=h3;have hs:Plain.gH C.data C.lim o s=.stop cd o:=hs;have e0:Plain.fC C.data C.lim (f+1) o s=⟨[],cd,o,s.held⟩:=by unfold Plain.fC;rw[hs]
    rw[e0] at hfin ⊢;obtain⟨todo,rfl⟩:=hat;refine(Sr.gT ..).1 (hfin vs _ w1 ⟨a'.tmps,x,todo,A,s,D1,rfl,hwk,hx1,by simpa using Y3,ME,hD1 _ (su hst ht2),.inl ⟨hne,rfl⟩⟩)
   | ret =>
    obtain⟨hs,hwk⟩:=h3;have hs:Plain.gH C.data C.lim o s=.stop 0 (o+1024):=hs;have e0:Plain.fC C.data C.lim (f+1) o s=⟨[],0,o+1024,s.held⟩:=by unfold Plain.fC;rw[hs]
    rw[e0] at hfin ⊢;obtain⟨todo,rfl⟩:=hat;refine(Sr.gT ..).1 (hfin vs _ w1 ⟨a'.tmps,x,todo,A,s,D1,rfl,hwk,hx1,by simpa using Y3,ME,hD1 _ (su hst ht2),.inr ⟨rfl,rfl⟩⟩)
   | normal =>
    obtain⟨h,gh,ho,hhr,hwk,hz,_,hz2,hz5,hz7,hgr,ahY⟩:=h3;have hz2:a'.tmps.getD 2 au=.pointer (some ⟨rb,0,none⟩):=hz2;have ho:o+512<=C.dn:=ho;have hhr:Plain.hread (eH C.data o (o+512))=(h,0):=hhr;obtain⟨hs0,hs1,hnl⟩:=Um hhr
    cases hat
    show GW _ _ _ _ (bR.at _ (.code yV::_)) _ _;rw[abq];refine .seq ?_;refine .block ?_;rw[aah];have hls:Plain.gH C.data C.lim o s=(if Plain.lH h.ty=true then(match Plain.extend C.data C.lim (o+512) h s with|.error c=>.stop c o|.ok s'=>.ext s' (Plain.next o h.size))
      else if 48<=h.ty/\h.ty<=54 then(match Plain.entry C.data (o+512) h s with|.error c=>.stop c o|.ok (e,size)=>.ent e (Plain.clean s) (Plain.next o size)) else .stop 73 o):=by
     unfold Plain.gH;rw[if_neg (by omega),if_neg (by omega),hhr];simp;rfl
    refine GW.pc (l:=[c14]) (Q:=H14 rb (fun i=>a'.tmps.getD i au) 61 (Plain.lH h.ty) w1) (r:=.inl (.cond (.tmp 61) c15 Cz)) (a:=⟨a'.tmps,[]⟩) I6 H7 Vn Ud WG trivial ds (mk lb qb F9 x) (.inl rfl) rfl afb (adX lb qb F9 x) hB ME (fun τ d=>?_) (fun e a' w' hq=>?_) (fun e a' w' τ d hq=>?_) fun e a2 fr w2 D2 hq Ni hD2 hat=>?_
    .have h1:=aee rb gh h (fun i=>a'.tmps.getD i au) (tp w1 τ d) hz5 hgr;rw[<-nR a'.tmps rb hz hz2] at h1;exact iH (fun e a w' hq=>H14.of hq) h1
    .obtain⟨rfl,_⟩:=hq;trivial
    .obtain⟨h1,h2,h3,h4,h5,jH,d',rfl⟩:=hq;exact⟨h1,h2,h3,h4,h5,τ,d,rfl⟩
    obtain⟨rfl,V3,h25,h27,ag2,τ2,d2,rfl⟩:=hq
    cases hat
    refine GW.zl (w:=w1) ?_ τ2 d2;have Ni:=GL Ni;have e61:(⟨over (mk lb qb F9 x) a2.tmps,ds⟩:Act).eval (.tmp 61)=.bool (Plain.lH h.ty):=by
     show(over (mk lb qb F9 x) a2.tmps).getD 61 au=_;rw[NS (by decide) (by decide) (by decide)];exact ag2
    show GW _ _ _ _ (bR.at _ (.code (.cond (.tmp 61) c15 Cz)::_)) _ _;refine .cond e61 ?_
    cases hex:Plain.lH h.ty with
    | true =>
     rw[if_pos hex] at hls;simp only[if_true];refine GW.pt (Q:=Gp C w1 (fun C' w'=>Tj C' A o s h rb (fun i=>a2.tmps.getD i au) w')) (r:=.inr 2) (a:=⟨a2.tmps,[]⟩) I6 H7 Vn Ud WG ds (mk lb qb F9 x) (.inl rfl) rfl aeC (acs lb qb F9 x) hB Ni (fun τ d=>?_) (fun e a' w' hq=>?_) (fun e a' w' τ d hq=>hq.tp τ d) fun e a3 fr w3 D3 hq Fh hD3 hat=>?_
     .have h1:=acM (C.tp τ) (hC.tp τ) A o s rb gh h (fun i=>a2.tmps.getD i au) (tp w1 τ d) (hwk.shift τ d) ⟨hx1.bx.row⟩ ho hs0 hs1 hex (h25.trans hz5) hgr;rw[<-nR a2.tmps rb V3.size V3.box] at h1;exact iH (fun e a w' hq jH d'=>hq.shift jH d') h1
     .have hq:=hq.now;obtain⟨_,h3⟩:=hq;generalize Plain.extend (C.tp w'.tape).data (C.tp w'.tape).lim (o+512) h s=ex at h3
      cases ex with
      | error c=>obtain⟨rfl,_⟩:=h3;exact Bz c
      | ok s'=>obtain⟨rfl,_⟩:=h3;trivial
     .have hq:=hq.now;obtain⟨ZQ,h3⟩:=hq;have hx3:Fx C rb lb qb c w3:=hx1.chg ZQ;have afH:qH w3 C.w0.heap.size vs es:=Y3.keep fun e x=>Bu (hwk.shift w3.tape 0) ZQ e x
      have e1:Plain.extend (C.tp w3.tape).data (C.tp w3.tape).lim (o+512) h s=Plain.extend C.data C.lim (o+512) h s:=rfl;rw[e1] at h3
      cases Jg:Plain.extend C.data C.lim (o+512) h s with
      | error cd =>
       rw[Jg] at h3 hls;obtain⟨rfl,XR⟩:=h3;have e0:Plain.fC C.data C.lim (f+1) o s=⟨[],cd,o,s.held⟩:=by unfold Plain.fC;rw[hls]
       rw[e0] at hfin ⊢;obtain⟨todo,rfl⟩:=hat;have hne:cd≠0:=by rcases Plain.Et Jg with h|h|h|h|h|h|h|h|h <;> omega
       refine(Sr.gT ..).1 (hfin vs _ w3 ⟨a3.tmps,x,todo,A,s,D3,rfl,XR,hx3,by simpa using afH,Fh,hD3 _ (su Ni V3.box),.inl ⟨hne,rfl⟩⟩)
      | ok s' =>
       rw[Jg] at h3 hls;obtain⟨rfl,JD,h37,A',XR⟩:=h3;have e0:Plain.fC C.data C.lim (f+1) o s=Plain.fC C.data C.lim f (Plain.next o h.size) s':=by
        conv=>lhs;unfold Plain.fC
        rw[hls]
       rw[e0] at hfin ⊢
       cases hat
       show GW _ _ _ _ (bR.at _ (.inBlock 2::_)) _ _;refine .inBlock ?_;have hnx:o+512<=Plain.next o h.size:=by unfold Plain.next;have:=Plain.gy h.size;omega
       refine XD hC rb lb qb F9 x ds hB XR hx3 afH Fh JD.size JD.box (h37.trans (h27.trans hz7)) (by omega) (by rw[<-hdl];exact Plain.Bg (by omega) (Plain.yC Jg)) fun w4 D4 t4 k1 k2 k3 k4 k5 k6=>?_
       exact(Sr.gT ..).1 (Ny hC rb lb qb F9 ds hB U2 f _ s' A' w4 D4 t4 x vs es (by omega) k1 k2 k3 k4 k5 k6 hfin)
    | false =>
     rw[if_neg (by rw[hex];decide)] at hls;simp only[jI,if_false];rw[Z6];refine GW.pc (l:=[c16]) (Q:=H14 rb (fun i=>a2.tmps.getD i au) 83 (decide (48<=h.ty/\h.ty<=54)) w1) (r:=.inl (.cond (.tmp 83) runN c13)) (a:=⟨a2.tmps,[]⟩) I6 H7 Vn Ud WG trivial ds (mk lb qb F9 x) (.inl rfl) rfl ae0 (acI lb qb F9 x) hB Ni (fun τ d=>?_) (fun e a' w' hq=>?_) (fun e a' w' τ d hq=>?_) fun e a3 fr w3 D3 hq Fh hD3 hat=>?_
     .have h1:=acZ rb gh h (fun i=>a2.tmps.getD i au) (tp w1 τ d) (h25.trans hz5) hgr;rw[<-nR a2.tmps rb V3.size V3.box] at h1;exact iH (fun e a w' hq=>H14.of hq) h1
     .obtain⟨rfl,_⟩:=hq;trivial
     .obtain⟨h1,h2,h3,h4,h5,jH,d',rfl⟩:=hq;exact⟨h1,h2,h3,h4,h5,τ,d,rfl⟩
     obtain⟨rfl,JD,h35,h37,ahh,τ3,d3,rfl⟩:=hq
     cases hat
     refine GW.zl (w:=w1) ?_ τ3 d3;have Fh:=GL Fh;have e83:(⟨over (mk lb qb F9 x) a3.tmps,ds⟩:Act).eval (.tmp 83)=.bool (decide (48<=h.ty/\h.ty<=54)):=by
      show(over (mk lb qb F9 x) a3.tmps).getD 83 au=_;rw[NS (by decide) (by decide) (by decide)];exact ahh
     show GW _ _ _ _ (bR.at _ (.code (.cond (.tmp 83) runN c13)::_)) _ _;refine .cond e83 ?_;by_cases hen:48<=h.ty/\h.ty<=54
     .rw[if_pos hen] at hls;rw[decide_eq_true hen,if_pos rfl,aag];refine GW.pc (l:=[c17,c18]) (Q:=Gp C w1 (fun C' w'=>RY C' A o s h rb (fun i=>a3.tmps.getD i au) w')) (r:=.inl runM) (a:=⟨a3.tmps,[]⟩) I6 H7 Vn Ud WG trivial ds (mk lb qb F9 x) (.inl rfl) rfl afz (adl lb qb F9 x) hB Fh (fun τ d=>?_) (fun e a' w' hq=>?_) (fun e a' w' τ d hq=>hq.tp τ d) fun e a4 fr w4 D4 hq Iw hD4 hat=>?_
      .have h1:=adr (C.tp τ) (hC.tp τ) A o s rb gh h (fun i=>a3.tmps.getD i au) (tp w1 τ d) (hwk.shift τ d) ⟨hx1.bx.row⟩ ho hnl hs0 hs1 (h35.trans (h25.trans hz5)) hgr hx1.r1 hx1.r2;rw[<-nR a3.tmps rb JD.size JD.box] at h1;exact iH (fun e a w' hq jH d'=>hq.shift jH d') h1
      .have hq:=hq.now;obtain⟨_,h3⟩:=hq;generalize Plain.entry (C.tp w'.tape).data (o+512) h s=ex at h3
       cases ex with
       | error c=>obtain⟨rfl,_⟩:=h3;exact Bz c
       | ok s'=>obtain⟨en,sz⟩:=s';obtain⟨rfl,_⟩:=h3;trivial
      .have hq:=hq.now;obtain⟨afx,h3⟩:=hq;have hx4:Fx C rb lb qb c w4:=hx1.chg afx;have aes:qH w4 C.w0.heap.size vs es:=Y3.keep fun e x=>Bu (hwk.shift w4.tape 0) afx e x
       have e1:Plain.entry (C.tp w4.tape).data (o+512) h s=Plain.entry C.data (o+512) h s:=rfl;rw[e1] at h3
       cases Jg:Plain.entry C.data (o+512) h s with
       | error cd =>
        rw[Jg] at h3 hls;obtain⟨rfl,acw⟩:=h3;have e0:Plain.fC C.data C.lim (f+1) o s=⟨[],cd,o,s.held⟩:=by unfold Plain.fC;rw[hls]
        rw[e0] at hfin ⊢;obtain⟨todo,rfl⟩:=hat;have hne:cd≠0:=by rcases Plain.GX Jg with h|h|h|h|h|h|h|h|h <;> omega
        refine(Sr.gT ..).1 (hfin vs _ w4 ⟨a4.tmps,x,todo,A,s,D4,rfl,acw,hx4,by simpa using aes,Iw,hD4 _ (su Fh JD.box),.inl ⟨hne,rfl⟩⟩)
       | ok ens =>
        obtain⟨en,size⟩:=ens;rw[Jg] at h3 hls;obtain⟨rfl,abv,h47,A',y,eb,h48,hge,hrow,acw,hown⟩:=h3;have e0:Plain.fC C.data C.lim (f+1) o s={Plain.fC C.data C.lim f (Plain.next o size) (Plain.clean s) with ents:=en::(Plain.fC C.data C.lim f (Plain.next o size) (Plain.clean s)).ents}:=by
         conv=>lhs;unfold Plain.fC
         rw[hls]
        rw[e0] at hfin ⊢
        cases hat
        show GW _ _ _ _ (bR.at _ (.code runM::_)) _ _;have hbel:Below w4.heap.size w4 (w4.alloc (.cells (sS (en,y)) 42)):=(Below.refl _ _).alloc (aY _) _;have hvr:=YB Iw h48 hrow;refine Uc lb qb eb w4 _ ds (by rw[aa8];exact abv.size) (mk_one abv.size) (by rw[NS (by decide) (by decide) (by decide)];exact h48) hrow hx4.l hx4.q (fun b hb=>(Iw.off b hb).2) rfl (U2 en y) ((Sr.gT ..).2 ?_);rw[TP];show GW _ _ _ _ (bR.at _ (.inBlock 2::_)) _ _;refine .inBlock ?_;have hth:=Plain.r9 Jg;have hle:=Plain.Bg (d:=C.data) (o:=o) (n:=size) (by omega) hth;have hnx:o+512<=Plain.next o size:=by unfold Plain.next;have:=Plain.gy size;omega
        have hsz:size<9223372036854775808:=by
         have h1:=Plain.Bl size;rw[Plain.tX] at hth;have h2:=hC.dn;omega
        refine XD hC rb lb qb F9 (cB lb qb) ds hB (acw.below hbel) (hx4.below hbel) ((aes.snoc hown).keep fun e x=>Pg hbel e x) (BD (BD (BD (Oq Iw _) 99 hvr) 100 (.bool true)) 101 (.bool false)) (by simp[abv.size]) (by rw[getD_set_ne (by decide),getD_set_ne (by decide),getD_set_ne (by decide)];exact abv.box) (size:=size) (by rw[getD_set_ne (by decide),getD_set_ne (by decide),getD_set_ne (by decide)];exact h47) hsz (by rw[<-hdl];exact hle) fun w5 D5 t5 k1 k2 k3 k4 k5 k6=>?_
        refine(Sr.gT ..).1 (Ny hC rb lb qb F9 ds hB U2 f _ (Plain.clean s) A' w5 D5 t5 _ _ _ (by omega) k1 k2 k3 k4 k5 k6 fun vs' fr' w' hre=>hfin vs' fr' w' ?_);rw[qbI] at hre;exact hre
     .rw[if_neg hen] at hls;rw[decide_eq_false hen,if_neg (by decide)];refine GW.pt (Q:=H13 w1) (r:=.inr 2) (a:=⟨a3.tmps,[]⟩) I6 H7 Vn Ud WG ds (mk lb qb F9 x) (.inl rfl) rfl afW (acG lb qb F9 x) hB Fh (fun τ d=>?_) (fun e a' w' hq=>?_) (fun e a' w' τ d hq=>?_) fun e a4 fr w4 D4 hq Iw hD4 hat=>?_
      .have h1:=acS (C.tp τ) rb (fun i=>a3.tmps.getD i au) (tp w1 τ d) ⟨hx1.bx.row⟩;rw[<-nR a3.tmps rb JD.size JD.box] at h1;exact iH (fun e a w' hq=>⟨hq.1,τ,d,hq.2⟩) h1
      .obtain⟨rfl,_⟩:=hq;exact Bz 73
      .obtain⟨h1,jH,d',rfl⟩:=hq;exact⟨h1,τ,d,rfl⟩
      .obtain⟨rfl,τ4,d4,rfl⟩:=hq;have e0:Plain.fC C.data C.lim (f+1) o s=⟨[],73,o,s.held⟩:=by unfold Plain.fC;rw[hls]
       rw[e0] at hfin ⊢;obtain⟨todo,rfl⟩:=hat;refine(Sr.gT ..).1 (hfin vs _ _ ⟨a4.tmps,x,todo,A,s,D4,rfl,hwk.shift τ4 d4,hx1.tp τ4 d4,by rw[Qq];exact Y3,Iw,hD4 _ (su Fh JD.box),.inl ⟨show(73:Int)≠0 by decide,rfl⟩⟩)
   | _=>exact h3.elim
end
end St
end
section
open Go.Conc
open Cc (tp)
namespace St
open Sr (GW WS qY Qt bT kg vB fK Tk gB dR fQ bU over iM dW kW uE oN)
open Gr (gJ aN aD aO aG aS)
noncomputable def Xf:Code:=Tryz.f111.body.getD .skip
noncomputable def reA:Code:=match Xf with|.seq (.seq _ c) _=>c|_=>.skip
noncomputable def reC:Code:=match Xf with|.seq _ c=>c|_=>.skip
def reF(f:Nat->Value)(rb gb:Nat)(ok:Bool):Array Value:=#[pv rb,pv gb,.bool ok,f 3,f 4,f 5,f 6,f 7,f 8,f 9,f 10,f 11,f 12,f 13,f 14,f 15,f 16,f 17,f 18,f 19,f 20,f 21,f 22]
structure Ch1(C:Cn)(w w':World):Prop where
 os:w'.os=w.os
 tape:w'.tape=w.tape
 output:w'.output=w.output
 size:w.heap.size<=w'.heap.size
 block:∀ i,i<w.heap.size->i≠C.wb->w'.heap[i]? = w.heap[i]?
theorem Ch1.grow{C:Cn}{w w':World}(h:w.grownBy w' (some C.wb)):Ch1 C w w':=⟨h.os,h.tape,h.output,h.size,fun i hi hne=>h.block i hi fun e=>hne (pQ e)⟩
def Zg(C:Cn)(A:Ad)(o:Nat)(s:bW)(code off:Int)(w:World):Prop:=w.heap[C.wb]? = some (.cells (VH C A o s code off) 85)
def Xl(C:Cn)(A:Ad)(o:Nat)(s:bW)(code:Int)(rb:Nat)(w:World):Exit->Act->World->Prop
 | .normal,a,w'=>a.defers=[]/\a.tmps.size=23/\a.tmps.getD 0 au=pv rb/\Ch1 C w w'/\Zg C A o s code 0 w'
 | _,_,_=>False
def Nq(C:Cn)(A:Ad)(o:Nat)(s:bW)(code:Int)(w:World):Exit->Act->World->Prop
 | .normal,a,w'=>a.defers=[]/\Ch1 C w w'/\Zg C A o s code o w'
 | _,_,_=>False
theorem acn(C:Cn)(A:Ad)(o:Nat)(s:bW)(code:Int)(rb gb:Nat)(ok:Bool)(f:Nat->Value)(w:World)(hw:Zg C A o s 0 0 w)(hb:Bx C rb w)(hg:w.cell? ⟨gb,0,none⟩=some (.int .i64 code))(h0:ok=false->code=0):gB qp0 (Xl C A o s code rb w) [reA] {tmps:=reF f rb gb ok,defers:=[]} w:=by
 have hcb:=hb.cell;have hf5:=aS hw 5;have h5:w.cell? ⟨C.wb,5,none⟩=some (.int .i64 0):=by rw[aG hw];rfl
 have HW:=ah hw;clear hw hb;unfold reF pv;simp only[reA,Xf,Tryz.f111,Option.getD_some,gB]
 cases ok with
 | true =>
  clear h0;go_wp2
  refine⟨rfl,rfl,rfl,Ch1.grow (aD _ _ _ _),?_⟩;exact aO HW.out (j:=5) _
 | false =>
  have:=h0 rfl;subst this;clear h0;go_wp2
  exact⟨rfl,rfl,rfl,⟨rfl,rfl,rfl,aY _,fun _ _ _=>rfl⟩,HW.out⟩
theorem ac9(C:Cn)(A:Ad)(o:Nat)(s:bW)(code:Int)(rb:Nat)(f:Nat->Value)(w:World)(hw:Zg C A o s code 0 w)(hb:Bx C rb w)(ho:(o:Int)<=9223372036854775807):gB qp0 (Nq C A o s code w) [reC] {tmps:=#[pv rb,f 1,f 2,f 3,f 4,f 5,f 6,f 7,f 8,f 9,f 10,f 11,f 12,f 13,f 14,f 15,f 16,f 17,f 18,f 19,f 20,f 21,f 22],defers:=[]} w:=by
 have hcb:=hb.cell;have hf6:=aS hw 6;have h3:w.cell? ⟨C.wb,3,none⟩=some (.int .i64 o):=by rw[aG hw];rfl
 have h6:w.cell? ⟨C.wb,6,none⟩=some (.int .i64 0):=by rw[aG hw];rfl
 have HW:=ah hw;clear hw hb;unfold pv;simp only[reC,Xf,Tryz.f111,Option.getD_some,gB];refine Oy fun K hK=>?_
 go_region
 all_goals (refine hK _ _ ?_;refine⟨rfl,⟨rfl,rfl,rfl,by simp[World.drew],fun i hi hne=>(aD w C.wb 6 _).block i hi fun e=>hne (pQ e)⟩,?_⟩;exact aO HW.out (j:=6) _)
end St
end
section
open Go.Conc
open Cc (tp)
namespace St
open Sr (GW WS qY Qt bT kg vB fK Tk gB dR fQ bU over iM dW kW uE oN)
open Gr (gJ aN aD aO aG aS)
variable {ε:Nat×Nat}
def vK(rb:Nat):Deferred:={target:=.fn (.func 111) #[pv rb],args:=#[]}
theorem dz{R:Nat->Nat->Prop}{L:FuncId->Bool}{x:Array Value}(h:∀ v∈x.toList,Sr.VR R L v v):Sr.AV R L x x:=⟨rfl,fun i v w hv hw=>by
 rw[hv] at hw;cases hw
 exact h v (by rw[<-qaV] at hv;exact qbb hv)⟩
section
variable {P:Program}{a:Act}{o:Oper}{x y:Operand}{t:TypeId}
theorem wR{z:Array Value}(hop:o.op=.alloc t)(hz:(P.info? t).bind (·.zero)=some (.agg z))(w:World):(execOp a.eval o).run P w=.ok (.value (pv w.heap.size)) (w.alloc (.cells z t))/\(execOp a.eval o).events P w #[]=#[]:=by
 obtain⟨i,hi,h0⟩:=qbc.1 hz;unfold execOp;simp[go_sem,hop,Instr.alloc,zeroValue,typeInfo,hi,h0,newVar,newRow,Value.cells,pv]
theorem Rv{g:Nat}{u v:Value}{ty:TypeId}(hop:o.op=.store t x y)(hx:a.eval x=.pointer (some ⟨g,0,none⟩))(hy:a.eval y=.agg #[v])(hi:(P.info? t).map (·.size)=some 1)(h1:v.oneCell'=true)(w:World)(hr:w.heap[g]? = some (.cells #[u] ty)):(execOp a.eval o).run P w=.ok .skip (w.setRow g #[v])/\∀ e∈(execOp a.eval o).events P w #[],∃ ad,e.loc=.cell ad/\ad.block=g:=by
 obtain⟨i,hi',hs'⟩:=zA.1 hi;have hr':=run_storeCells_at (P:=P) g 0 ty [v] 0 #[u] w hr (by simp) (by simpa using h1);have e:((#[u]:Array Value).toList.take (0+0)++[v]++(#[u]:Array Value).toList.drop (0+0+[v].length)).toArray=#[v]:=by simp
 rw[e] at hr';constructor
 .simp[execOp,hop,hx,hy,Instr.storeAt,Instr.sureAddr,storeVar,sizeOf,typeInfo,hi',hs',Value.cells,hr',Result.andThen]
 .intro e he;unfold execOp at he;simp only[hop] at he;have hx':=hx;simp only[Act.eval,Az] at hx hy;simp[go_sem,hx,hy,Instr.storeAt,Instr.sureAddr,storeVar,sizeOf,typeInfo,hi',hs',Value.cells] at he;exact(events_storeCells_at (P:=P) g 0 ty [v] 0 #[u] w #[] hr (by simp) (by simpa using h1) e he).resolve_left (by simp)
end
noncomputable def re0:Code:=match Xf with|.seq (.seq c _) _=>c|_=>.skip
theorem WE:Xf=.seq (.seq re0 reA) reC:=by kernel_rfl
theorem Yq:kg qp0 (dW ε) Sr.kW [] reA=true:=by kernel_rfl
theorem adk:kg qp0 (dW ε) Sr.kW [] reC=true:=by kernel_rfl
structure U3(C:Cn)(w w':World):Prop where
 os:w'.os=w.os
 output:w'.output=w.output
 size:w.heap.size<=w'.heap.size
 block:∀ i,i<w.heap.size->i≠C.wb->w'.heap[i]? = w.heap[i]?
theorem U3.trans{C:Cn}{a b c:World}(h:U3 C a b)(k:U3 C b c):U3 C a c:=⟨k.os.trans h.os,k.output.trans h.output,tT h.size k.size,fun i hi hn=>(k.block i (CW hi h.size) hn).trans (h.block i hi hn)⟩
theorem U3.of1{C:Cn}{w w':World}{τ:Nat->Question->Nat}{d:Nat}(h:Ch1 (C.tp τ) (tp w τ d) w'):U3 C w w':=⟨h.os,h.output,h.size,h.block⟩
theorem Xl.shift{C:Cn}{A:Ad}{o:Nat}{s:bW}{code:Int}{rb:Nat}{w w':World}{τ:Nat->Question->Nat}{d:Nat}{e:Exit}{a:Act}(h:Xl (C.tp τ) A o s code rb (tp w τ d) e a w')(jH:Nat->Question->Nat)(d':Nat):Xl (C.tp jH) A o s code rb (tp w jH 0) e a (tp w' jH d'):=by
 cases e with
 | normal=>obtain⟨h1,h2,h3,h4,h5⟩:=h;exact⟨h1,h2,h3,⟨h4.os,rfl,h4.output,h4.size,h4.block⟩,h5⟩
 | _=>exact h.elim
theorem Nq.shift{C:Cn}{A:Ad}{o:Nat}{s:bW}{code:Int}{w w':World}{τ:Nat->Question->Nat}{d:Nat}{e:Exit}{a:Act}(h:Nq (C.tp τ) A o s code (tp w τ d) e a w')(jH:Nat->Question->Nat)(d':Nat):Nq (C.tp jH) A o s code (tp w jH 0) e a (tp w' jH d'):=by
 cases e with
 | normal=>obtain⟨h1,h4,h5⟩:=h;exact⟨h1,⟨h4.os,rfl,h4.output,h4.size,h4.block⟩,h5⟩
 | _=>exact h.elim
theorem nu{P:Program}{L:FuncId->Bool}{S D:Nat->Prop}{t:Array Value}{w:World}(h:bU P L S D t w){ob:Obj}(ho:Sr.OR (Sr.mQ (Sr.grown D w.heap.size 1)) L ob ob):bU P L S (Sr.grown D w.heap.size 1) t (w.alloc ob):=by
 have hsz:(w.alloc ob).heap.size=w.heap.size+1:=qb3 ..;have hb:∀ i,i<w.heap.size->(w.alloc ob).heap[i]? = w.heap[i]?:=fun i hi=>((Below.refl w.heap.size w).alloc (aY _) ob).block i hi
 have hmono:∀ a b,Sr.mQ D a b->Sr.mQ (Sr.grown D w.heap.size 1) a b:=fun a b hab=>⟨hab.1,.inl hab.2⟩
 have PK:Sr.FZ (Sr.mQ D) w.heap.size w.heap.size:=fun a b hab=>⟨h.bnd a hab.2,hab.1 ▸ h.bnd a hab.2⟩
 refine⟨fun b hS=>⟨?_,by have:=(h.off b hS).2;omega⟩,?_,?_,⟨fun a b hab=>?_,fun b Zh=>?_,fun a b hab=>?_⟩,h.tmps.mono hmono⟩
 .rintro (hd|hd)
  .exact(h.off b hS).1 hd
  .have:=(h.off b hS).2;omega
 .have:=h.gb.ext PK 1;exact⟨⟨fun a a' b h h'=>this.inj a a' b ((Sr.bX _ _).2 h) ((Sr.bX _ _).2 h'),fun a b b' h h'=>this.fn a b b' ((Sr.bX _ _).2 h) ((Sr.bX _ _).2 h')⟩,fun g hg b h=>this.g1 g hg b ((Sr.bX _ _).2 h),fun g hg a h=>this.g2 g hg a ((Sr.bX _ _).2 h),fun g hg=>(Sr.bX _ _).1 (this.gl g hg)⟩
 .rintro a (hd|hd)
  .have:=h.bnd a hd;omega
  .omega
 .obtain⟨rfl,hd|hd⟩:=hab
  .rw[hb a (h.bnd a hd)];exact(h.heap a a ⟨rfl,hd⟩).mono hmono
  .have:a=w.heap.size:=by omega
   subst this;have e:(w.alloc ob).heap[w.heap.size]? = some ob:=JL;rw[e];exact .some ho
 .obtain⟨x,e,h1,h2⟩:=h.heap.opq b Zh;have:=hb b (fT.1 h1).1;exact⟨x,e,this.trans h1,this.trans h2⟩
 .exact(h.heap.ext 1).Af a b ((Sr.bX _ _).2 hab)
section
variable {S:Nat->Prop}{Φ:Frame->List Frame->World->Prop}
theorem Qo{C:Cn}(hC:C.Ok){A:Ad}{off:Nat}{s:bW}{code:Int}{ok:Bool}{rb:Nat}{v:Value}{w:World}{D:Nat->Prop}{t:Array Value}{c1 R1:Frame}{cs:List Frame}(hw:Zg C A off s 0 0 w)(hb:Bx C rb w)(hne:rb≠C.wb)(hst:bU qp0 (dW ε) S D t w)(hrb:D rb)(hoff:(off:Int)<=9223372036854775807)(h0:ok=false->code=0)(hv:Sr.VR (Sr.mQ D) (dW ε) v v)(hta:∀ w,(Instr.typeAssert v 20 179 true).run qp0 w=.ok (.tuple #[.agg #[.int .i64 code],.bool ok]) w/\(Instr.typeAssert v 20 179 true).events qp0 w #[]=#[])(hback:∀ u,Sr.back .deferred c1 u=R1)(next:∀ w',U3 C w w'->Zg C A off s code off w'->GW qp0 (iM ε) S Φ R1 cs w'):GW qp0 (iM ε) S Φ ((baseD 111).at ⟨#[pv rb,au,au,au,v,au,au,au,au,au,au,au,au,au,au,au,au,au,au,au,au,au,au],[]⟩ (.inRegion (match re0 with|.region _ ops _=>ops|_=>#[]) [1,2,3,4,5,6,7]::.code reA::.code reC::[])) (c1::cs) w:=by
 simp only[re0,Xf,Tryz.f111,Option.getD_some];refine .still (o:={dst:=some 5,op:=Op.typeAssert (Operand.tmp 4) 20 179 true,type:=180,pos := "stream.go:149",after:=#[{on:=0,ground:=Ground.data}],guard:=none}) rfl rfl (by decide) (by show(true&&Sr.jL qp0 (iM ε) (.tmp 4)&&Sr.G5 qp0 179&&!(iM ε) (2*179+1000000000))=true;rw[Sr.aew ε (t:=179) (by kernel_rfl)];kernel_rfl) (by simp) (.tuple #[.agg #[.int .i64 code],.bool ok]) (fun ω=>by
  have h1:=(hta ω).1;have h2:=(hta ω).2;constructor
  .unfold execOp;simp[Act.eval,h1,Result.andThen]
  .unfold execOp;simp[Act.eval,Sem.events_bind,h1,h2,Result.evThen]) ?_
 walk_nrm;refine .move rfl rfl (by decide) (by kernel_rfl) (.inl rfl) ?_;walk_nrm;refine .still rfl rfl (by decide) (by kernel_rfl) (by simp) (.agg #[.int .i64 code]) (fun ω=>Cc.eP rfl rfl rfl ω) ?_;walk_nrm;refine .still rfl rfl (by decide) (by kernel_rfl) (by simp) (.bool ok) (fun ω=>Cc.eP rfl rfl rfl ω) ?_;walk_nrm;have hz:(qp0.info? 179).bind (·.zero)=some (.agg #[.int .i64 0]):=by kernel_rfl
 have hi1:(qp0.info? 179).map (·.size)=some 1:=by kernel_rfl
 refine .val rfl rfl (by decide) (by kernel_rfl) (by simp) (pv w.heap.size) (w.alloc (.cells #[.int .i64 0] 179)) (fun τ d=>(wR rfl hz _).1) (fun τ d e he=>by rw[(wR rfl hz _).2] at he;simp at he) ?_ (hf:=Sr.wY (fun b hb=>(hst.off b hb).2) _);walk_nrm;have hr1:(w.alloc (.cells #[.int .i64 0] 179)).heap[w.heap.size]? = some (.cells #[.int .i64 0] 179):=JL;have ME:=fun τ d=>Rv (P:=qp0) (a:=⟨#[pv rb,pv w.heap.size,au,.tuple #[.agg #[.int .i64 code],.bool ok],v,.tuple #[.agg #[.int .i64 code],.bool ok],.agg #[.int .i64 code],.bool ok,au,au,au,au,au,au,au,au,au,au,au,au,au,au,au],[]⟩) (o:={dst:=none,op:=Op.store 179 (Operand.tmp 1) (Operand.tmp 6),type:=0,pos := "stream.go:149",after:=#[{on:=5,ground:=Ground.data},{on:=3,ground:=Ground.data},{on:=0,ground:=Ground.chain},{on:=0,ground:=Ground.phase},{on:=1,ground:=Ground.phase},{on:=2,ground:=Ground.phase},{on:=3,ground:=Ground.phase},{on:=4,ground:=Ground.textOnly Departure.lateStores},{on:=5,ground:=Ground.phase}],guard:=none}) rfl (g:=w.heap.size) (v:=.int .i64 code) rfl rfl hi1 rfl (tp (w.alloc (.cells #[.int .i64 0] 179)) τ d) hr1
 refine .non rfl rfl (by decide) (by kernel_rfl) (by simp) ((w.alloc (.cells #[.int .i64 0] 179)).setRow w.heap.size #[.int .i64 code]) (fun τ d=>(ME τ d).1) (fun τ d e he b hb hS=>by
  obtain⟨ad,h1,h2⟩:=(ME τ d).2 e he;rw[h1] at hb;have hb:some ad.block=some b:=hb
  cases hb
  rw[h2] at hS;have:=(hst.off _ hS).2;omega) ?_ (hf:=fun b hb=>by
  have hlt:=(hst.off b hb).2;rw[qQ,Sr.wY (S:=S) (fun b hb=>(hst.off b hb).2) _ b hb,Sr.wY (S:=S) (fun b hb=>(hst.off b hb).2) _ b hb])
 rw[qQ];walk_nrm;refine .move rfl rfl (by decide) (by kernel_rfl) (.inr rfl) ?_;walk_nrm;refine .rend ?_;have hbel:Below w.heap.size w (w.alloc (.cells #[.int .i64 code] 179)):=(Below.refl _ _).alloc (aY _) _;have hrow:(w.alloc (.cells #[.int .i64 code] 179)).heap[w.heap.size]? = some (.cells #[.int .i64 code] 179):=JL;have hg:=nu hst (ob:=.cells #[.int .i64 code] 179) (.cells _ _ _ _ (dz (by intro u hu;simp at hu;subst hu;exact .int _ _)));have hmono:∀ a b,Sr.mQ D a b->Sr.mQ (Sr.grown D w.heap.size 1) a b:=fun a b hab=>⟨hab.1,.inl hab.2⟩
 have H6:∀ b,Sr.grown D w.heap.size 1 b->Sr.VR (Sr.mQ (Sr.grown D w.heap.size 1)) (dW ε) (pv b) (pv b):=fun b hb=>.ptr _ _ ⟨⟨rfl,hb⟩,rfl,rfl⟩
 have hvu:Sr.VR (Sr.mQ (Sr.grown D w.heap.size 1)) (dW ε) au au:=Sr.dG;have hva:Sr.VR (Sr.mQ (Sr.grown D w.heap.size 1)) (dW ε) (.agg #[.int .i64 code]) (.agg #[.int .i64 code]):=.agg _ _ rfl (dz (by intro u hu;simp at hu;subst hu;exact .int _ _)).2;have hvt:Sr.VR (Sr.mQ (Sr.grown D w.heap.size 1)) (dW ε) (.tuple #[.agg #[.int .i64 code],.bool ok]) (.tuple #[.agg #[.int .i64 code],.bool ok]):=.tuple _ _ rfl (dz (by intro u hu;simp at hu;rcases hu with rfl|rfl;exact hva;exact .bool _)).2;have AY:Sr.AV (Sr.mQ (Sr.grown D w.heap.size 1)) (dW ε) #[pv rb,pv w.heap.size,.bool ok,.tuple #[.agg #[.int .i64 code],.bool ok],v,.tuple #[.agg #[.int .i64 code],.bool ok],.agg #[.int .i64 code],.bool ok,au,au,au,au,au,au,au,au,au,au,au,au,au,au,au] #[pv rb,pv w.heap.size,.bool ok,.tuple #[.agg #[.int .i64 code],.bool ok],v,.tuple #[.agg #[.int .i64 code],.bool ok],.agg #[.int .i64 code],.bool ok,au,au,au,au,au,au,au,au,au,au,au,au,au,au,au]:=dz (by
  intro u hu;simp only[rD,xS,or_false] at hu;rcases hu with rfl|rfl|rfl|rfl|rfl|rfl|rfl|rfl|rfl|rfl|rfl|rfl|rfl|rfl|rfl|rfl|rfl|rfl|rfl|rfl|rfl|rfl|rfl
  .exact H6 _ (.inl hrb)
  .exact H6 _ (.inr (by omega))
  .exact .bool _
  .exact hvt
  .exact hv.mono hmono
  .exact hvt
  .exact hva
  .exact .bool _
  all_goals exact hvu)
 have agc:bU qp0 (dW ε) S (Sr.grown D w.heap.size 1) #[pv rb,pv w.heap.size,.bool ok,.tuple #[.agg #[.int .i64 code],.bool ok],v,.tuple #[.agg #[.int .i64 code],.bool ok],.agg #[.int .i64 code],.bool ok,au,au,au,au,au,au,au,au,au,au,au,au,au,au,au] (w.alloc (.cells #[.int .i64 code] 179)):=⟨hg.off,hg.gb,hg.bnd,hg.heap,AY⟩;have hwA:Zg C A off s 0 0 (w.alloc (.cells #[.int .i64 code] 179)):=Gr.aU hw hbel;have hbA:Bx C rb (w.alloc (.cells #[.int .i64 code] 179)):=hb.below hbel;have ahu:U3 C w (w.alloc (.cells #[.int .i64 code] 179)):=⟨rfl,rfl,hbel.size,fun i hi _=>hbel.block i hi⟩;generalize w.alloc (.cells #[.int .i64 code] 179)=w1 at *
 refine GW.pt (c:=reA) (Q:=Gp C w1 (fun C' w'=>Xl C' A off s code rb w')) (r:=.inl reC) (k:=[]) (a:=⟨#[pv rb,pv w.heap.size,.bool ok,.tuple #[.agg #[.int .i64 code],.bool ok],v,.tuple #[.agg #[.int .i64 code],.bool ok],.agg #[.int .i64 code],.bool ok,au,au,au,au,au,au,au,au,au,au,au,au,au,au,au],[]⟩) I6 H7 Vn Ud WG [] [] (.inr rfl) rfl Yq Yq (by simp) agc (fun τ d=>?_) (fun e a' w' hq=>?_) (fun e a' w' τ d hq=>hq.tp τ d) fun e a2 fr w2 D2 hq Ni hD2 hat=>?_
 .have h1:=acn (C.tp τ) A off s code rb w.heap.size ok (fun i=>#[pv rb,pv w.heap.size,.bool ok,.tuple #[.agg #[.int .i64 code],.bool ok],v,.tuple #[.agg #[.int .i64 code],.bool ok],.agg #[.int .i64 code],.bool ok,au,au,au,au,au,au,au,au,au,au,au,au,au,au,au].getD i au) (tp w1 τ d) hwA ⟨hbA.row⟩ (show w1.cell? ⟨w.heap.size,0,none⟩=some (.int .i64 code) by rw[aG hrow];rfl) h0;exact iH (fun e a w' hq jH d'=>hq.shift jH d') h1
 .have hq:=hq.now
  cases e with
  | normal=>trivial
  | _=>exact hq.elim
 .have hq1:=hq.now
  cases e with
  | normal =>
   obtain⟨had,hsz,h20,hch,hwk⟩:=hq1
   cases hat
   have ae1:=U3.of1 hch;have hb2:Bx C rb w2:=⟨by rw[ae1.block rb (fT.1 hbA.row).1 hne];exact hbA.row⟩;show GW _ _ _ _ (Frame.at _ ⟨a2.tmps,[]⟩ [.code reC]) _ _;refine GW.pe (Q:=fun a w'=>Gp C w2 (fun C' w'=>Nq C' A off s code w') .normal a w') (a:=⟨a2.tmps,[]⟩) I6 H7 Vn Ud WG (.inr rfl) rfl adk (by simp) Ni (fun τ d=>?_) (fun a' w' τ d hq=>hq.tp τ d) fun a3 w3 D3 hq3 hd3 Fh=>?_
   .have e23:a2.tmps=#[pv rb,a2.tmps.getD 1 au,a2.tmps.getD 2 au,a2.tmps.getD 3 au,a2.tmps.getD 4 au,a2.tmps.getD 5 au,a2.tmps.getD 6 au,a2.tmps.getD 7 au,a2.tmps.getD 8 au,a2.tmps.getD 9 au,a2.tmps.getD 10 au,a2.tmps.getD 11 au,a2.tmps.getD 12 au,a2.tmps.getD 13 au,a2.tmps.getD 14 au,a2.tmps.getD 15 au,a2.tmps.getD 16 au,a2.tmps.getD 17 au,a2.tmps.getD 18 au,a2.tmps.getD 19 au,a2.tmps.getD 20 au,a2.tmps.getD 21 au,a2.tmps.getD 22 au]:=by
     have e:a2.tmps=((List.range 23).map (fun i=>a2.tmps.getD i au)).toArray:=by
      apply TS
      .simp[hsz]
      .intro i hi1 hi2;simp[hi1]
     rw[<-h20];exact e
    have h1:=ac9 (C.tp τ) A off s code rb (fun i=>a2.tmps.getD i au) (tp w2 τ d) hwk ⟨hb2.row⟩ hoff;rw[<-e23] at h1;have h2:reC.wp qp0 _ _ _:=h1;refine wp_mono h2 fun e a w' hq=>?_
    cases e with
    | normal=>exact⟨rfl,fun jH d'=>Nq.shift (show Nq (C.tp τ) A off s code (tp w2 τ d) .normal a w' from hq) jH d'⟩
    | _=>exact hq.elim
   .have hq3:=hq3.now;obtain⟨_,ZQ,XR⟩:=hq3;refine .fin ?_;refine GW.back (v:=.tuple #[]) (.inr rfl) hd3 func111 (fun w=>?_) ?_
    .simp[results,Tryz.f111]
    .show GW _ _ _ _ (Sr.back .deferred c1 _) _ _;rw[hback];exact next w3 ((ahu.trans ae1).trans (U3.of1 ZQ)) XR
  | _=>exact hq1.elim
end
end St
end
section
open Go.Conc
open Cc (tp)
namespace St
open Sr (GW WS qY Qt bT kg vB fK Tk gB dR fQ bU over iM dW kW uE oN)
variable {ε:Nat×Nat}
theorem acg(code:Int)(w:World):(Instr.typeAssert (.iface 179 (.agg #[.int .i64 code])) 20 179 true).run qp0 w=.ok (.tuple #[.agg #[.int .i64 code],.bool true]) w/\(Instr.typeAssert (.iface 179 (.agg #[.int .i64 code])) 20 179 true).events qp0 w #[]=#[]:=by
 constructor <;> kernel_rfl
theorem afq(w:World):(Instr.typeAssert .nilIface 20 179 true).run qp0 w=.ok (.tuple #[.agg #[.int .i64 0],.bool false]) w/\(Instr.typeAssert .nilIface 20 179 true).events qp0 w #[]=#[]:=by
 constructor <;> kernel_rfl
section
variable {S:Nat->Prop}{c:Nat}{Φ:Frame->List Frame->World->Prop}
theorem aa4{C:Cn}(hC:C.Ok){rb lb qb:Nat}{F9:Value}{code:Int}{off:Nat}{held:Int}{vs:List Value}{es:List En}{fr c74:Frame}{cs:List Frame}{w:World}(h:Yu ε C rb lb qb c F9 [vK rb] S code off held vs es fr w)(next:∀ (A:Ad)(s:bW)(w':World),s.held=held->U3 C w w'->Zg C A off s code off w'->qH w' C.w0.heap.size vs es->GW qp0 (iM ε) S Φ (c74.finish (.tuple #[])) cs w'):GW qp0 (iM ε) S Φ fr (c74::cs) w:=by
 obtain⟨t,x,todo,A,s,D,hh,hwk,hx,hes,hst,hrb,hfr⟩:=h;have hoff:(off:Int)<=9223372036854775807:=by have h1:=hwk.Zv;have h1:off<=C.dn:=h1;have h2:=hC.dn;omega
 have hend:∀ w',U3 C w w'->Zg C A off s code off w'->GW qp0 (iM ε) S Φ {bR.at ⟨over (mk lb qb F9 x) t,[]⟩ todo with mode:=.returning} (c74::cs) w':=fun w' h1 h2=>by
  refine GW.leave (v:=.tuple #[]) rfl rfl func75 (fun w=>?_) (next A s w' hh h1 h2 (hes.keep fun e y ho=>?_))
  .simp[results,Tryz.f75]
  .exact Gr.gJ ho fun b hb=>h1.block b (ho.lt b hb).2 fun e1=>Gr.aN ho (show w.heap[C.wb]? = _ from hwk.row) (by decide) (by rw[hb];exact congrArg some e1)
 rcases hfr with⟨hne,rfl⟩|⟨rfl,rfl⟩
 .refine GW.out (f:=111) (.inr ⟨_,rfl⟩) func111 (by decide) rfl ?_;rw[enter_atD (P:=qp0) (f:=111) (fn:=Tryz.f111) (c:=Xf) #[pv rb] func111 rfl];have e0:(#[pv rb]++Array.replicate (Tryz.f111.ntmps-#[pv rb].size) au:Array Value)=#[pv rb,au,au,au,au,au,au,au,au,au,au,au,au,au,au,au,au,au,au,au,au,au,au]:=by kernel_rfl
  rw[e0,WE];refine .seq ?_;refine .seq ?_;have key:=Qo (S:=S) (Φ:=Φ) hC (ok:=true) (v:=.iface 179 (.agg #[.int .i64 code])) (c1:={bR.at ⟨over (mk lb qb F9 x) t,[]⟩ todo with mode:=.panicking [{v:=.iface 179 (.agg #[.int .i64 code]),recovered:=true}]}) (R1:={bR.at ⟨over (mk lb qb F9 x) t,[]⟩ todo with mode:=.returning}) (cs:=c74::cs) hwk.row hx.bx hx.r1 hst hrb hoff (fun h=>by cases h) (.iface _ _ _ (.agg _ _ rfl (dz (by intro u hu;simp at hu;subst hu;exact .int _ _)).2)) (acg code) (fun u=>rfl) hend;simp only[re0,Xf,Tryz.f111,Option.getD_some] at key ⊢;refine .region ?_;simp only[rJ,oH,List.length_nil,Nat.reduceAdd,lU,List.range,List.range.loop];refine GW.recover (ps:=[]) rfl rfl rfl rfl (by kernel_rfl) rfl ?_;walk_nrm;exact key
 .refine GW.out (f:=111) (.inl rfl) func111 (by decide) rfl ?_;rw[enter_atD (P:=qp0) (f:=111) (fn:=Tryz.f111) (c:=Xf) #[pv rb] func111 rfl];have e0:(#[pv rb]++Array.replicate (Tryz.f111.ntmps-#[pv rb].size) au:Array Value)=#[pv rb,au,au,au,au,au,au,au,au,au,au,au,au,au,au,au,au,au,au,au,au,au,au]:=by kernel_rfl
  rw[e0,WE];refine .seq ?_;refine .seq ?_;have key:=Qo (S:=S) (Φ:=Φ) hC (ok:=false) (v:=.nilIface) (c1:={bR.at ⟨over (mk lb qb F9 x) t,[]⟩ todo with mode:=.returning}) (R1:={bR.at ⟨over (mk lb qb F9 x) t,[]⟩ todo with mode:=.returning}) (cs:=c74::cs) hwk.row hx.bx hx.r1 hst hrb hoff (fun _=>rfl) .nilIface afq (fun u=>rfl) hend;simp only[re0,Xf,Tryz.f111,Option.getD_some] at key ⊢;refine .region ?_;simp only[rJ,oH,List.length_nil,Nat.reduceAdd,lU,List.range,List.range.loop];refine GW.VW rfl rfl rfl rfl (by kernel_rfl) rfl ?_;walk_nrm;exact key
end
def dw(c:Nat):Deferred:={target:=.builtin .close #[142] 0 #[false],args:=#[.chan (some c)]}
def Gf(lb yF qb:Nat):Deferred:={target:=.fn (.func 74) #[pv lb,pv yF,pv qb],args:=#[]}
noncomputable def Gh(d:Deferred):Frame:={(default:Frame) with fn:=qp0.funcs.size,defers:=[d],mode:=.panicking [goexitEntry]}
noncomputable def DJ:Frame:={(default:Frame) with fn:=qp0.funcs.size,defers:=[],mode:=.panicking [goexitEntry]}
noncomputable def flB:Code:=Tryz.f74.body.getD .skip
noncomputable def fl0:Code:=match flB with|.seq c _=>c|_=>.skip
noncomputable def fl1:Code:=match flB with|.seq _ c=>c|_=>.skip
theorem ado:flB=.seq fl0 fl1:=by kernel_rfl
noncomputable def QO:Array Oper:=match fl1 with|.region _ ops _=>ops|_=>#[]
noncomputable def flF(lb yF qb wb c:Nat):Frame:=(baseD 74).at ⟨#[pv lb,pv yF,pv qb,.chan (some c),pv wb,cB lb qb,au],[dw c]⟩ [.inRegion QO [2]]
noncomputable def afL(lb yF qb wb c:Nat):Frame:={(baseD 74).at ⟨#[pv lb,pv yF,pv qb,.chan (some c),pv wb,cB lb qb,.tuple #[]],[dw c]⟩ [] with mode:=.returning}
section
variable {S:Nat->Prop}{Φ:Frame->List Frame->World->Prop}
theorem acJ(lb yF qb wb c:Nat){cs:List Frame}{w:World}(h:GW qp0 (iM ε) S Φ (afL lb yF qb wb c) cs w):GW qp0 (iM ε) S Φ ((flF lb yF qb wb c).finish (.tuple #[])) cs w:=by
 unfold flF QO;simp only[fl1,flB,Tryz.f74,Option.getD_some];rw[fin_at rfl];walk_nrm;refine .rend ?_;exact .fin h
end
end St
end
section
open Go.Conc
open Cc (tp)
namespace St
open Sr (GW WS qY Qt bT kg vB fK Tk gB dR fQ bU over iM dW kW uE oN)
variable {ε:Nat×Nat}
def und(n:Nat):Array Value:=Array.replicate n au
section
variable {S:Nat->Prop}{c:Nat}{Φ:Frame->List Frame->World->Prop}
theorem XZ(lb yF qb wb:Nat)(w:World)(hl:w.cell? ⟨lb,0,none⟩=some (.chan (some c)))(hp:w.cell? ⟨yF,0,none⟩=some (pv wb))(next:GW qp0 (iM ε) S Φ (bR.at ⟨#[pv wb,cB lb qb]++und 111,[]⟩ [.code rE]) (flF lb yF qb wb c::[DJ]) w):GW qp0 (iM ε) S Φ (Gh (Gf lb yF qb)) [] w:=by
 have e:Gh (Gf lb yF qb)={(DJ).at ⟨#[],[Gf lb yF qb]⟩ [] with mode:=.panicking [goexitEntry]}:=by
  unfold Gh DJ Frame.at;rfl
 rw[e];refine GW.out (f:=74) (.inr ⟨_,rfl⟩) func74 (by decide) rfl ?_;have e1:({(DJ).at ⟨#[],[]⟩ [] with mode:=.panicking [goexitEntry]}:Frame)=DJ:=by unfold DJ Frame.at;rfl
 rw[e1];rw[enter_atD (P:=qp0) (f:=74) (fn:=Tryz.f74) (c:=flB) #[pv lb,pv yF,pv qb] func74 rfl];have e0:(#[pv lb,pv yF,pv qb]++Array.replicate (Tryz.f74.ntmps-#[pv lb,pv yF,pv qb].size) au:Array Value)=#[pv lb,pv yF,pv qb,au,au,au,au]:=by kernel_rfl
 rw[e0,ado];refine .seq ?_;simp only[fl0,flB,Tryz.f74,Option.getD_some];refine .region ?_;simp only[rJ,oH,List.length_nil,Nat.reduceAdd,lU,List.range,List.range.loop];refine .val rfl rfl (by decide) (by kernel_rfl) (by simp) (.chan (some c)) w (fun τ d=>(jR (w:=tp w τ d) rfl rfl ⟨_,underlying142,trivial⟩ hl).1) (fun τ d e he=>by rw[(jR (w:=tp w τ d) rfl rfl ⟨_,underlying142,trivial⟩ hl).2] at he;simp at he;subst he;exact fun _ _ _=>rfl) ?_;walk_nrm;refine .dfr (dd:=dw c) rfl rfl (by decide) (by kernel_rfl) (by simp) (fun ω=>by constructor <;> kernel_rfl) ?_;walk_nrm;refine .rend ?_;have hfl:flF lb yF qb wb c=(baseD 74).at ⟨#[pv lb,pv yF,pv qb,.chan (some c),pv wb,cB lb qb,au],[dw c]⟩ [.inRegion QO [2]]:=rfl;rw[hfl] at next
 unfold QO at next
 simp only[fl1,flB,Tryz.f74,Option.getD_some] at next ⊢
 refine .region ?_;simp only[rJ,oH,List.length_nil,Nat.reduceAdd,lU,List.range,List.range.loop];refine .val rfl rfl (by decide) (by kernel_rfl) (by simp) (pv wb) w (fun τ d=>(jR (w:=tp w τ d) rfl rfl ⟨_,underlying77,trivial⟩ hp).1) (fun τ d e he=>by rw[(jR (w:=tp w τ d) rfl rfl ⟨_,underlying77,trivial⟩ hp).2] at he;simp at he;subst he;exact fun _ _ _=>rfl) ?_;walk_nrm;refine .still rfl rfl (by decide) (by kernel_rfl) (by simp) (cB lb qb) (fun ω=>Jk (vs:=#[pv lb,pv qb]) rfl (by simp[Act.eval]) ω) ?_;walk_nrm;refine .enter rfl rfl (by decide) (by kernel_rfl) (by simp) 75 #[pv wb,cB lb qb] (fun ω=>QJ (vs:=#[pv wb,cB lb qb]) (caps:=#[]) rfl rfl (by simp[Act.eval]) func75 (by decide) rfl ω) ?_;rw[enter_at (P:=qp0) (f:=75) (fn:=Tryz.f75) (c:=rE) #[pv wb,cB lb qb] func75 rfl];have e2:(#[pv wb,cB lb qb]++Array.replicate (Tryz.f75.ntmps-#[pv wb,cB lb qb].size) au:Array Value)=#[pv wb,cB lb qb]++und 111:=by kernel_rfl
 rw[e2];exact next
end
section
variable {P:Program}{a:Act}{o:Oper}{x y:Operand}{t:TypeId}
theorem Ef{q:Option Addr}(hop:o.op=.box t x)(hx:a.eval x=.pointer q)(w:World):(execOp a.eval o).run P w=.ok (.value (pv w.heap.size)) (w.alloc (.cells #[.pointer q] t))/\(execOp a.eval o).events P w #[]=#[]:=by
 simp only[Act.eval,Az] at hx;unfold execOp;simp[go_sem,hop,hx,Instr.box,newVar,newRow,Value.cells,pv]
end
noncomputable def ru0:Code:=match rE with|.seq c _=>c|_=>.skip
noncomputable def ru1:Code:=match rE with|.seq _ (.seq c _)=>c|_=>.skip
theorem aac:rE=.seq ru0 (.seq ru1 (.block 0 (.loop LB))):=by kernel_rfl
def f9V(rb:Nat):Value:=.func (.func 111) #[] #[pv rb]
def t0V(wb rb:Nat):Array Value:=#[pv wb,au,pv rb]++und 110
section
variable {S:Nat->Prop}{Φ:Frame->List Frame->World->Prop}
theorem Tc(lb qb wb:Nat)(w:World)(hS:∀ b,S b->b<w.heap.size){cs:List Frame}(next:GW qp0 (iM ε) S Φ (bR.at ⟨over (mk lb qb (f9V w.heap.size) au) (t0V wb w.heap.size),[vK w.heap.size]⟩ [.code LB,.inLoop LB,.inBlock 0]) cs (w.alloc (.cells #[pv wb] 77))):GW qp0 (iM ε) S Φ (bR.at ⟨#[pv wb,cB lb qb]++und 111,[]⟩ [.code rE]) cs w:=by
 rw[aac];refine .seq ?_;simp only[ru0,rE,Tryz.f75,Option.getD_some];refine .region ?_;simp only[rJ,oH,List.length_nil,Nat.reduceAdd,lU,List.range,List.range.loop];have hx:(⟨#[pv wb,cB lb qb]++und 111,[]⟩:Act).eval (.tmp 0)=.pointer (some ⟨wb,0,none⟩):=by kernel_rfl
 refine .val rfl rfl (by decide) (by kernel_rfl) (by simp) (pv w.heap.size) (w.alloc (.cells #[pv wb] 77)) (fun τ d=>(Ef rfl hx _).1) (fun τ d e he=>by rw[(Ef rfl hx _).2] at he;simp at he) ?_ (hf:=Sr.wY hS _);refine .rend ?_;refine .seq ?_;simp only[ru1,rE,Tryz.f75,Option.getD_some];refine .region ?_;simp only[rJ,oH,List.length_nil,Nat.reduceAdd,lU,List.range,List.range.loop];have hy:#[Operand.tmp 2].map (Act.put ⟨#[pv wb,cB lb qb]++und 111,[]⟩ (some 2) (pv w.heap.size)).eval=#[pv w.heap.size]:=by kernel_rfl
 refine .still rfl rfl (by decide) (by kernel_rfl) (by simp) (f9V w.heap.size) (fun ω=>Jk rfl hy ω) ?_;have hz:∀ ω,(execOp ((Act.put ⟨#[pv wb,cB lb qb]++und 111,[]⟩ (some 2) (pv w.heap.size)).put (some 9) (f9V w.heap.size)).eval {dst:=none,op:=Op.defer {callee:=Callee.value (Operand.tmp 9),args:=#[],argTypes:=#[]},type:=0,pos := "stream.go:148",after:=#[{on:=0,ground:=Ground.data}],guard:=none}).run qp0 ω=.ok (.defer (vK w.heap.size)) ω/\(execOp ((Act.put ⟨#[pv wb,cB lb qb]++und 111,[]⟩ (some 2) (pv w.heap.size)).put (some 9) (f9V w.heap.size)).eval {dst:=none,op:=Op.defer {callee:=Callee.value (Operand.tmp 9),args:=#[],argTypes:=#[]},type:=0,pos := "stream.go:148",after:=#[{on:=0,ground:=Ground.data}],guard:=none}).events qp0 ω #[]=#[]:=fun ω=>by constructor <;> kernel_rfl
 refine .dfr (dd:=vK w.heap.size) rfl rfl (by decide) (by kernel_rfl) (by simp) hz ?_;refine .rend ?_;refine .block ?_;refine .loop ?_;have e:(Act.put ⟨((Act.put ⟨#[pv wb,cB lb qb]++und 111,[]⟩ (some 2) (pv w.heap.size)).put (some 9) (f9V w.heap.size)).tmps,vK w.heap.size::((Act.put ⟨#[pv wb,cB lb qb]++und 111,[]⟩ (some 2) (pv w.heap.size)).put (some 9) (f9V w.heap.size)).defers⟩ none au)=⟨over (mk lb qb (f9V w.heap.size) au) (t0V wb w.heap.size),[vK w.heap.size]⟩:=by kernel_rfl
 have e3:=congrArg (fun z=>GW qp0 (iM ε) S Φ (bR.at z [.code LB,.inLoop LB,.inBlock 0]) cs (w.alloc (.cells #[pv wb] 77))) e;exact e3.mpr next
end
end St
end
section
open Go.Conc
open Cc (tp)
namespace St
open Sr (GW WS qY Qt bT kg vB fK Tk gB dR fQ bU over iM dW kW uE oN)
variable {ε:Nat×Nat}
theorem Xn{P:Program}{R:Nat->Nat->Prop}{L:FuncId->Bool}{K:Op->Bool}{x y:Frame}(h:Sr.rF P R L K Sr.O0 x y):∃ t d m,y={fn:=x.fn,tmps:=t,todo:=x.todo,defers:=d,mode:=m,kind:=x.kind,roundOf:=none}/\Sr.AV R L x.tmps t/\Sr.DL R L x.defers d/\Sr.MR R L x.mode m:=by
 obtain⟨fn,tmps,todo,defers,mode,kind,ro⟩:=y;obtain⟨h1,⟨tm,h2,h2'⟩,h3,_,⟨d,h5,h5'⟩,h6,h7,_,_,_,h10⟩:=h;have h3:todo=x.todo:=h3;have h2':tmps=tm:=h2';have hdd:defers=d:=h5.trans (Qq _);have h5':Sr.DL R L x.defers d:=h5';have h7:kind=x.kind:=h7;have h1:fn=x.fn:=h1;have h10:ro=none:=h10;subst h1 h2' h3 h7 h10;rw[hdd];exact⟨_,_,_,rfl,h2,h5',h6⟩
theorem Xk{R:Nat->Nat->Prop}{L:FuncId->Bool}{c:Nat}{d:List Deferred}(h:Sr.DL R L [dw c] d):d=[dw c]:=by
 cases h with
 | @cons _ y _ b h k =>
  cases k
  obtain⟨t,a⟩:=y;obtain⟨h1,h2⟩:=h;have h2:Sr.AV R L #[.chan (some c)] a:=h2;have h1:Sr.TR R L (.builtin .close #[142] 0 #[false]) t:=h1
  cases h1
  have:(#[.chan (some c)]:Array Value)=a:=by
   refine TS h2.1 fun i hi hj=>?_
   have h3:=h2.2 i _ _ (mJ hi) (mJ hj);have:i=0:=by simp at hi;exact hi
   subst this;have h3:Sr.VR R L (.chan (some c)) a[0]:=h3;generalize a[0]=u at h3
   cases h3
   rfl
  subst this;rfl
theorem aeJ{R:Nat->Nat->Prop}{L:FuncId->Bool}{m:FrameMode}(h:Sr.MR R L (.panicking [goexitEntry]) m):m=.panicking [goexitEntry]:=by
 cases h with
 | panicking h =>
  cases h with
  | cons hv hr hg k =>
   rename_i y b
   cases k
   obtain⟨v,r,g⟩:=y;simp only at hv hr hg;subst hr hg;have hv:Sr.VR R L goexitEntry.v v:=hv;have:v=goexitEntry.v:=by
    have hv:Sr.VR R L (.tuple #[]) v:=hv;show v=.tuple #[]
    cases hv with
    | tuple _ y hx _=>rw[Array.size_eq_zero_iff.1 hx.symm]
   subst this;rfl
def Eh(t:Array Value)(d:List Deferred):Frame:={fn:=74,tmps:=t,todo:=[],defers:=d,mode:=.returning,kind:=.deferred,roundOf:=none}
noncomputable def xI(t:Array Value):Frame:={fn:=qp0.funcs.size,tmps:=t,todo:=[],defers:=[],mode:=.panicking [goexitEntry],kind:=.normal,roundOf:=none}
theorem PS(t t':Array Value):QuitsIn qp0 2 (G (Eh t []) [xI t']):=by
 refine .inr ⟨rfl,G (xI t') [],fun w=>?_,?_⟩
 .simp[G,stepG,unwind,doReturn,results,Eh,xI,func74,Tryz.f74,seen,GStep.after,goexitEntry]
 refine .inr ⟨rfl,{G (xI t') [] with status:=.finished},fun w=>?_,rfl⟩;simp[G,stepG,unwind,xI,goexitEntry,Frame.catches]
theorem Md{K:Op->Bool}{c:Nat}(lb yF qb wb:Nat):Sr.Closing qp0 (iM ε) K c (afL lb yF qb wb c) [DJ]:=by
 intro R aB χ h
 cases h with
 | up h hz k =>
  cases k with
  | bot k _ _ _ =>
   obtain⟨t,d,m,rfl,_,hd,hm⟩:=Xn h;obtain⟨t',d',m',rfl,_,hd',hm'⟩:=Xn k;have hd:Sr.DL R (iM ε) [dw c] d:=hd;have hm:Sr.MR R (iM ε) .returning m:=hm;have hd':Sr.DL R (iM ε) [] d':=hd';have hm':Sr.MR R (iM ε) (.panicking [goexitEntry]) m':=hm';obtain rfl:=Xk hd;obtain rfl:=aeJ hm'
   cases hm
   cases hd'
   refine⟨rfl,rfl,G (Eh t []) [xI t'],2,fun w s r tm hc=>?_,PS t t'⟩;show stepG qp0 false (G (Eh t [dw c]) [xI t']) w=_;have hr:(invoke (dw c).target (dw c).args).run qp0 w=.ok (.value (.tuple #[])) (w.setChan c 0 #[] true s r tm):=by
    simp[dw,invoke,go_sem,run_close_open _ _ hc,World.setChan]
   have he:(invoke (dw c).target (dw c).args).events qp0 w #[]=#[⟨.obj c,false,true⟩,⟨.obj c,true,true⟩]:=by
    simp[dw,invoke,go_sem,events_close_open _ _ hc]
   have hrt:(invoke (dw c).target (dw c).args).runT qp0 w #[]=(.ok (.value (.tuple #[])) (w.setChan c 0 #[] true s r tm),#[⟨.obj c,false,true⟩,⟨.obj c,true,true⟩]):=Prod.ext ((Sem.runT_fst ..).trans hr) he;have ae6:seen qp0 74 #[⟨.obj c,false,true⟩,⟨.obj c,true,true⟩]=#[⟨.obj c,false,true⟩,⟨.obj c,true,true⟩]:=by
    refine seen_eq (by simp[func74,Tryz.f74]) ?_;intro e he f;simp only[qch,rD,xS,or_false] at he;rcases he with rfl|rfl <;> simp
   have e:stepG qp0 false (G (Eh t [dw c]) [xI t']) w=callDeferred qp0 (Eh t []) [xI t'] none (dw c) w:=rfl;rw[e];unfold callDeferred;rw[if_neg (by simp[dw])];rw[hrt];dsimp only
   rw[show(Eh t []).fn=74 from rfl,ae6];simp[GStep.after,G]
def abg(C:Cn)(R:Plain.Pz)(vs:List Value)(wg:World):Prop :=∃ A s,s.held=R.held/\Zg C A R.off s R.code R.off wg/\qH wg C.w0.heap.size vs R.ents/\∀ b,b<C.w0.heap.size->wg.heap[b]? = C.w0.heap[b]?
section
variable {K:Op->Bool}{S:Nat->Prop}{c:Nat}{Sh:Value->Prop}
theorem UE{C:Cn}(hC:C.Ok){A:Ad}{lb yF qb:Nat}{D:Nat->Prop}(w:World)(hl:w.cell? ⟨lb,0,none⟩=some (.chan (some c)))(hp:w.cell? ⟨yF,0,none⟩=some (pv C.wb))(hq:w.cell? ⟨qb,0,none⟩=some (.chan none))(l1:lb≠C.wb)(l2:lb≠C.mb)(q1:qb≠C.wb)(q2:qb≠C.mb)(hw:Wk (C.tp w.tape) A 0 bW.zero w)(hcl:bU qp0 (dW ε) S D #[] w)(hwb:D C.wb)(U2:∀ e x,Sh (.agg (sS (e,x)))):WS qp0 (iM ε) K S c Sh (abg C (Plain.fC C.data C.lim (C.data.length+1) 0 bW.zero)) (Plain.fC C.data C.lim (C.data.length+1) 0 bW.zero).ents.length [] (Gh (Gf lb yF qb)) [] w:=by
 have hS:∀ b,S b->b<w.heap.size:=fun b hb=>(hcl.off b hb).2
 have hf:C.data.length - 0<C.data.length+1:=by omega
 revert hf;generalize C.data.length+1=f;intro hf;refine(Sr.gT ..).2 (XZ lb yF qb C.wb w hl hp (Tc lb qb C.wb w hS ((Sr.gT ..).1 ?_)));have hbel:Below w.heap.size w (w.alloc (.cells #[pv C.wb] 77)):=(Below.refl _ _).alloc (aY _) _;have H6:∀ b,Sr.grown D w.heap.size 1 b->Sr.VR (Sr.mQ (Sr.grown D w.heap.size 1)) (dW ε) (pv b) (pv b):=fun b hb=>.ptr _ _ ⟨⟨rfl,hb⟩,rfl,rfl⟩
 have hg:=nu hcl (ob:=.cells #[pv C.wb] 77) (.cells _ _ _ _ (dz (by intro u hu;simp at hu;subst hu;exact H6 _ (.inl hwb))));have hrow:(w.alloc (.cells #[pv C.wb] 77)).heap[w.heap.size]? = some (.cells #[pv C.wb] 77):=JL;have acE:C.wb<w.heap.size:=(fT.1 hw.row).1;have agW:C.mb<w.heap.size:=hw.long.lt;have AY:Sr.AV (Sr.mQ (Sr.grown D w.heap.size 1)) (dW ε) (t0V C.wb w.heap.size) (t0V C.wb w.heap.size):=by
  unfold t0V und;refine Sr.AV.app (dz ?_) (Sr.AV.abx _ Sr.dG);intro u hu;simp only[rD,xS,or_false] at hu;rcases hu with rfl|rfl|rfl
  .exact H6 _ (.inl hwb)
  .exact Sr.dG
  .exact H6 _ (.inr (by omega))
 have hst:bU qp0 (dW ε) S (Sr.grown D w.heap.size 1) (t0V C.wb w.heap.size) (w.alloc (.cells #[pv C.wb] 77)):=⟨hg.off,hg.gb,hg.bnd,hg.heap,AY⟩;have hfx:Fx C w.heap.size lb qb c (w.alloc (.cells #[pv C.wb] 77)) :=⟨⟨hrow⟩,by omega,by omega,by rw[hbel.cell (World.block_lt_of_cell? (w:=w) (a:=⟨lb,0,none⟩) hl)];exact hl,l1,l2,by rw[hbel.cell (World.block_lt_of_cell? (w:=w) (a:=⟨qb,0,none⟩) hq)];exact hq,q1,q2⟩
 refine Ny hC w.heap.size lb qb (f9V w.heap.size) [vK w.heap.size] (by simp) U2 f 0 bW.zero A (w.alloc (.cells #[pv C.wb] 77)) (Sr.grown D w.heap.size 1) (t0V C.wb w.heap.size) au [] [] hf (hw.below hbel) hfx (qH.nil _ _) hst (by kernel_rfl) (by kernel_rfl) fun vs' fr' w' hre=>?_
 rw[yG] at hre;have agR:=hre;obtain⟨t,x,todo,A',s,D',hh,hwk,_,_,_,_,_⟩:=agR;refine(Sr.gT ..).2 (aa4 hC hre fun A2 s2 w2 hs2 hch ag5 agt=>acJ lb yF qb C.wb c (.stop fun τ d=>⟨Md lb yF qb C.wb,A2,s2,hs2,ag5,agt,fun b hb=>?_⟩));have h1:=hC.wb;have h2:=hwk.bJ.block b hb;have h3:=hch.block b (CW hb hwk.bJ.size) (by omega);exact h3.trans h2
end
end St
end
section
open Go.Conc
open Cc (tp)
namespace St
open Sr (MG RM gZ AtRecv Rel dh oV tN wo wT Bp tZ IL wm)
noncomputable def iW:Code:=Tryz.f16.body.getD .skip
noncomputable def LP:Code:=match iW with|.seq _ (.seq _ (.seq _ (.seq _ (.seq (.seq _ (.block _ (.loop c))) _))))=>c|_=>.skip
noncomputable def LP2:Code:=match LP with|.seq _ r=>r|_=>.skip
noncomputable def YP:Code:=match iW with|.seq _ (.seq _ (.seq _ (.seq _ (.seq _ y))))=>y|_=>.skip
noncomputable def VP:Array Oper:=match iW with|.seq _ (.seq _ (.seq _ (.seq _ (.seq (.seq (.region _ ops _) _) _))))=>ops|_=>#[]
noncomputable def Gv:Array Oper:=match LP with|.seq (.region _ ops _) _=>ops|_=>#[]
def bP:Frame:=base 16
noncomputable def PV(cs:List Frame)(t:Array Value)(rest:List Nat):Goroutine:=G (bP.at ⟨t,[]⟩ [.inRegion Gv rest,.code LP2,.inLoop LP,.inBlock 0,.code YP]) cs
structure HP(wb rs c:Nat)(t:Array Value)(x:Option Addr)(i cp:Nat):Prop where
 size:t.size=36
 res:t.getD 4 au=pv rs
 wk:t.getD 5 au=pv wb
 list:t.getD 7 au=.slice x i cp
 chan:t.getD 19 au=.chan (some c)
theorem Vw{t:Array Value}(h:t.size=36):t=#[t.getD 0 au,t.getD 1 au,t.getD 2 au,t.getD 3 au,t.getD 4 au,t.getD 5 au,t.getD 6 au,t.getD 7 au,t.getD 8 au,t.getD 9 au,t.getD 10 au,t.getD 11 au,t.getD 12 au,t.getD 13 au,t.getD 14 au,t.getD 15 au,t.getD 16 au,t.getD 17 au,t.getD 18 au,t.getD 19 au,t.getD 20 au,t.getD 21 au,t.getD 22 au,t.getD 23 au,t.getD 24 au,t.getD 25 au,t.getD 26 au,t.getD 27 au,t.getD 28 au,t.getD 29 au,t.getD 30 au,t.getD 31 au,t.getD 32 au,t.getD 33 au,t.getD 34 au,t.getD 35 au]:=by
 have e:t=((List.range 36).map (fun i=>t.getD i au)).toArray:=by
  apply TS
  .simp[h]
  .intro i hi1 hi2;simp[hi1]
 exact e
def Wu(v:Value):Prop:=∃ xs:Array Value,v=.agg xs/\xs.size=11/\∀ u∈xs.toList,u.oneCell'=true
def flat(acc:List Value):List Value:=acc.flatMap fun v=>v.cells.toList
theorem Tt(acc:List Value)(xs:Array Value):flat (acc++[.agg xs])=flat acc++xs.toList:=by simp[flat,Value.cells]
structure Yy(n0:Nat)(X:Nat->Prop)(w:World)(x:Option Addr)(i cp:Nat)(acc:List Value):Prop where
 own:w.ownsRow n0 42 11 (.slice x i cp) i (flat acc)
 inX:∀ b,(Value.slice x i cp).ownBlock=some b->X b
 size:n0<=w.heap.size
section
variable {S:Nat->Prop}{Stop:(Nat->Prop)->Goroutine->World->Prop}
theorem Yy.rel{n0:Nat}{X:Nat->Prop}{w ω:World}{x:Option Addr}{i cp:Nat}{acc:List Value}(h:Yy n0 X w x i cp acc)(θ:Rel S X w ω):Yy n0 X ω x i cp acc:=⟨Sr.QI h.own h.inX θ,h.inX,tT h.size θ.size⟩
theorem YA:(qp0.info? 42).bind (·.zero)=some (.agg fZ):=by kernel_rfl
theorem ag8{n0 wb rs c:Nat}(cs:List Frame){t:Array Value}{x:Option Addr}{i cp:Nat}{acc:List Value}{xs:Array Value}(hP:HP wb rs c t x i cp)(ht:t.getD 20 au=.tuple #[.agg xs,.bool true])(hx:xs.size=11)(h1:∀ u∈xs.toList,u.oneCell'=true)(hlim:(i+1)*136<=140737488355328){X:Nat->Prop}{w:World}(hr:Yy n0 X w x i cp acc)(next:∀ (t':Array Value)(X':Nat->Prop)(w':World)(x':Option Addr)(cp':Nat),HP wb rs c t' x' (i+1) cp'->Yy n0 X' w' x' (i+1) cp' (acc++[.agg xs])->Stop X' (PV cs t' [0,1]) w'):MG qp0 S Stop 25 X (PV cs t [1]) w:=by
 have e:=Vw hP.size;rw[hP.res,hP.wk,hP.list,hP.chan,ht] at e;rw[e];clear e;have hc19:=hP.chan;clear hP ht;simp only[PV,Gv,LP2,LP,YP,iW,Tryz.f16,Option.getD_some] at next ⊢
 refine oV rfl rfl (by decide) _ (fun ω=>Cc.eP rfl rfl rfl ω) ?_;walk_nrm;refine dh rfl (fun _=>stepG_region_end) ?_;refine dh rfl (fun _=>stepG_seq) ?_;refine dh rfl (fun _=>stepG_cond (t:=true) rfl) ?_;simp only[if_true];refine dh rfl (fun _=>stepG_skip) ?_;refine dh rfl (fun _=>stepG_block) ?_;refine dh rfl (fun _=>stepG_seq) ?_;refine dh rfl (fun _=>stepG_region) ?_;simp only[rJ,oH,List.length_nil,Nat.reduceAdd,lU,List.range,List.range.loop];refine oV rfl rfl (by decide) _ (fun ω=>Cc.eP rfl rfl rfl ω) ?_;walk_nrm;refine wo rfl rfl (by decide) rfl rfl YA fun ω θ=>?_
 walk_nrm;have ra:Yy n0 (fun b=>X b\/b=ω.heap.size) (ω.alloc (.cells fZ 42)) x i cp acc:=⟨World.ownsRow.alloc (hr.rel θ).own _,fun b hb=>.inl (hr.inX b hb),by have:=(hr.rel θ).size;show n0<=(ω.heap.push _).size;simp;omega⟩;have hp:(ω.alloc (.cells fZ 42)).heap[ω.heap.size]? = some (.cells fZ 42 (0,0)):=heap_alloc_new ω _;have hlt:∀ k,(Value.slice x i cp).ownBlock=some k->k<ω.heap.size:=fun k hk=>((hr.rel θ).own.lt k hk).2
 generalize hpe:ω.heap.size=p at *
 generalize ω.alloc (.cells fZ 42)=wa at ra hp ⊢;refine wT rfl rfl (by decide) rfl rfl p rfl xs rfl fZ hp hx.symm (by rw[hx];kernel_rfl) h1 (.inr rfl) fun ψ Ξ=>?_
 walk_nrm;have rb:=ra.rel Ξ;have hp2:ψ.heap[p]? = some (.cells fZ 42 (0,0)):=(Ξ.own p (.inr rfl)).trans hp;have rc:Yy n0 (fun b=>X b\/b=p) (ψ.setRow p xs) x i cp acc:=⟨Cc.NP rb.own hlt _,rb.inX,by have:=rb.size;simp;exact this⟩;have hp3:(ψ.setRow p xs).heap[p]? = some (.cells xs 42 (0,0)):=setRow_heap _ _ _ _ _ _ hp2;generalize ψ.setRow p xs=ws at rc hp3 ⊢;refine dh rfl (fun _=>stepG_region_end) ?_;refine dh rfl (fun _=>stepG_region) ?_;simp only[rJ,oH,List.length_nil,Nat.reduceAdd,lU,List.range,List.range.loop];refine tN rfl rfl (by decide) (.inl rfl) ?_;walk_nrm;refine Bp rfl rfl (by decide) rfl p rfl xs hp3 underlying42 (by rw[hx];kernel_rfl) (.inr rfl) ?_;walk_nrm;refine tZ rfl rfl (by decide) rfl rfl underlying27 xs (by rw[hx];kernel_rfl) (z:=fZ) hx.symm (by omega) (by omega) rfl fun w₃ h₃=>?_
 walk_nrm;have rd:Yy n0 (fun b=>(X b\/b=p)\/b=w₃.heap.size) (w₃.alloc (.cells xs 42)) x i cp acc:=⟨World.ownsRow.alloc (rc.rel h₃).own _,fun b hb=>.inl (rc.inX b hb),by have:=(rc.rel h₃).size;show n0<=(w₃.heap.push _).size;simp;omega⟩;have hsrc:wh (w₃.alloc (.cells xs 42)) 11 (some ⟨w₃.heap.size,0,none⟩) 1 1 xs.toList:=pq w₃ 42 11 1 xs (by rw[hx]) (by decide);refine IL rfl rfl (by decide) rfl rfl 42 _ 11 136 underlying27 FW rfl (by decide) (by decide) rfl rd.own rd.inX rfl (.inr rfl) hsrc h1 hlim rd.size fun w₄ a' c' w' X' h₄ g1 g2 g3 g4=>?_
 walk_nrm;have re:Yy n0 X' w' a' (i+1) c' (acc++[.agg xs]):=⟨by rw[Tt];exact g1,g2,tT (rd.rel h₄).size g4⟩;refine tN rfl rfl (by decide) (.inr rfl) ?_;walk_nrm;refine dh rfl (fun _=>stepG_region_end) ?_;refine dh rfl (fun _=>stepG_inBlock) ?_;refine dh rfl (fun _=>stepG_inLoop) ?_;refine dh rfl (fun _=>stepG_seq) ?_;refine dh rfl (fun _=>stepG_region) ?_;simp only[rJ,oH,List.length_nil,Nat.reduceAdd,lU,List.range,List.range.loop];exact wm fun w₅ h₅=>next _ X' w₅ a' c' ⟨rfl,rfl,rfl,rfl,rfl⟩ (re.rel h₅)
end
end St
end
section
open Go.Conc
open Cc (tp)
namespace St
open Sr (MG RM gZ AtRecv Rel dh oV tN wo wT Bp tZ IL wm)
theorem Ld{c:Nat}(cs:List Frame){t:Array Value}(h19:t.getD 19 au=.chan (some c))(w:World):stepG qp0 true (PV cs t [0,1]) w=.comm (core (PV cs t [0,1])) #[rcase c (.agg fZ)] true (.recv true) w #[]:=by
 obtain⟨i,hi,h0⟩:=qbc.1 YA;have hev:(⟨t,[]⟩:Act).eval (.tmp 19)=.chan (some c):=h19;simp only[Act.eval,Az] at hev;simp only[PV,Gv,LP,iW,Tryz.f16,Option.getD_some,core_G];rw[stepG_comm (cases:=#[rcase c (.agg fZ)]) (blocking:=true) (shape:=.recv true) (w':=w) rfl rfl (by decide) (by simp[go_sem,hev,rcase,run_underlying underlying80,zeroValue,typeInfo,hi,h0])];refine congrArg (fun es=>GStep.comm _ _ _ _ _ es) (listed_none ?_);unfold execOp;simp[go_sem,hev,underlying80,zeroValue,typeInfo,hi,h0]
theorem EO(cs:List Frame)(t:Array Value)(v:Value):Go.Conc.served (core (PV cs t [0,1])) v=PV cs (t.setIfInBounds 20 v) [1]:=by
 simp only[PV,Gv,LP,iW,Tryz.f16,Option.getD_some,core_G,served_G];rfl
theorem HP.set{wb rs c:Nat}{t:Array Value}{x:Option Addr}{i cp:Nat}(h:HP wb rs c t x i cp)(v:Value):HP wb rs c (t.setIfInBounds 20 v) x i cp :=⟨by simp[h.size],by rw[getD_set_ne (by decide)];exact h.res,by rw[getD_set_ne (by decide)];exact h.wk,by rw[getD_set_ne (by decide)];exact h.list,by rw[getD_set_ne (by decide)];exact h.chan⟩
def ZG(n0 wb rs c:Nat)(cs:List Frame)(acc:List Value)(X:Nat->Prop)(g:Goroutine)(w:World):Prop :=∃ (t:Array Value)(x:Option Addr)(cp:Nat),g=PV cs t [1]/\HP wb rs c t x acc.length cp/\t.getD 20 au=.tuple #[.agg fZ,.bool false]/\Yy n0 X w x acc.length cp acc
section
variable {S:Nat->Prop}
theorem Xd{n0 wb rs c:Nat}(cs:List Frame)(K:Nat)(hK:K*136<=140737488355328):∀ (m:Nat)(acc:List Value)(X:Nat->Prop)(t:Array Value)(x:Option Addr)(cp:Nat)(w:World),HP wb rs c t x acc.length cp->Yy n0 X w x acc.length cp acc->acc.length+m=K ->
  gZ qp0 S c (.agg fZ) Wu (ZG n0 wb rs c cs) m acc X (PV cs t [0,1]) w
 | 0,acc,X,t,x,cp,w,hP,hr,hm=>by
  refine⟨rfl,⟨#[],Ld cs hP.chan w,by simp⟩,?_⟩;rw[EO];exact⟨_,x,cp,rfl,hP.set _,gq (by rw[hP.size];decide),hr⟩
 | m+1,acc,X,t,x,cp,w,hP,hr,hm=>by
  refine⟨rfl,⟨#[],Ld cs hP.chan w,by simp⟩,fun v hv=>?_⟩;obtain⟨xs,rfl,hx,h1⟩:=hv;rw[EO];have hle:(acc.length+1)*136<=K*136:=qbX _ (by omega);refine(Sr.Dk ..).2 ⟨25,ag8 cs (hP.set _) (gq (by rw[hP.size];decide)) hx h1 (by omega) hr fun t' X' w' x' cp' hP' hr'=>?_⟩;have hl:(acc++[Value.agg xs]).length=acc.length+1:=by simp
  exact Xd cs K hK m (acc++[.agg xs]) X' t' x' cp' w' (by rw[hl];exact hP') (by rw[hl];exact hr') (by rw[hl];omega)
end
theorem ac7{R:Nat->Nat->Prop}{L:FuncId->Bool}{v w:Value}(h:Sr.VR R L v w)(h1:v.oneCell'=true):w.oneCell'=true:=by
 cases h <;> first|rfl|(cases h1;done)|exact h1
theorem Wu.image{L:FuncId->Bool}:∀ (R:Nat->Nat->Prop)(v ν:Value),Sr.VR R L v ν->Wu v->Wu ν:=by
 rintro R v ν h ⟨xs,rfl,hx,h1⟩
 cases h with
 | agg x y hs hv =>
  refine⟨y,rfl,hs.symm.trans hx,fun u hu=>?_⟩;obtain⟨i,hi,rfl⟩:=List.mem_iff_getElem.1 hu;have hi':i<xs.size:=by rw[hs];simpa using hi
  have h2:=hv i _ _ (mJ hi') (mJ (by simpa using hi));have:=ac7 h2 (h1 _ (by simp));simpa using this
theorem Wu.en(e:En)(x:Option Addr×Nat×Nat):Wu (.agg (sS (e,x))):=⟨_,rfl,rfl,fun u hu=>aeg [(e,x)] u (by simpa[fG] using hu)⟩
end St
end
section
open Go.Maps (Keyed)
namespace St
def wk0(a:Option Addr)(n c:Nat)(lim:kG)(mb:Nat):Array Value :=#[.slice a n c,.int .i64 lim.name,.int .i64 lim.iP,.int .i64 0,.slice none 0 0,.int .i64 0,.int .i64 0,.int .i64 0,.slice none 0 0,.slice none 0 0,.int .i64 0,.map (some mb)]
def nV(lim:kG):Value:=.agg #[.int .i64 lim.name,.int .i64 lim.iP]
def rC(w:World)(lim:kG):World:=w.alloc (.cells #[.int .i64 lim.name,.int .i64 lim.iP] 24)
def Fy(w:World)(a:Option Addr)(n c:Nat)(lim:kG):World:=((rC w lim).alloc (.map #[] 0)).alloc (.cells (wk0 a n c lim (w.heap.size+1)) 85)
def agq(w:World)(a:Option Addr)(n c:Nat)(lim:kG)(e:Ending)(w':World):Prop :=(Plain.eT lim=true/\e=.returned (.tuple #[.pointer (some ⟨w.heap.size+2,0,none⟩),.bool true])/\w'=Fy w a n c lim) \/
 (Plain.eT lim=false/\e=.returned (.tuple #[.pointer none,.bool false])/\w'=rC w lim)
theorem RP(a:Option Addr)(n c:Nat)(lim:kG)(w:World):Calls qp0 40 #[.slice a n c,nV lim] w (agq w a n c lim):=by
 obtain⟨ln,lp⟩:=lim;have hmm:=@run_makeMap qp0;unfold nV;go_enter func40,ntmps40;by_cases h1:ln<1
 .go_wp2
  go_ret2;refine .inr ⟨?_,rfl,rfl⟩;simp[Plain.eT];omega
 by_cases h2:4096<ln
 .go_wp2
  go_ret2;refine .inr ⟨?_,rfl,rfl⟩;simp[Plain.eT];omega
 by_cases h3:lp<0
 .go_wp2
  go_ret2;refine .inr ⟨?_,rfl,rfl⟩;simp[Plain.eT];omega
 by_cases h4:1048576<lp
 .go_wp2
  go_ret2;refine .inr ⟨?_,rfl,rfl⟩;simp[Plain.eT];omega
 .go_wp2
  go_ret2;refine .inl ⟨?_,?_,?_⟩
  .simp[Plain.eT];omega
  .rfl
  .rfl
end St
end
end Go.Proofs.YtdbgldieilgnmaaGreatDoor
