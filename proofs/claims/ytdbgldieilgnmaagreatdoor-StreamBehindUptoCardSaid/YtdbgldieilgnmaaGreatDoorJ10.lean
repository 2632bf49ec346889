/- J10 -/
import Derived.Test.YtdbgldieilgnmaaGreatDoorJ09
import Derived.Deep.RegionHeld3
set_option linter.unusedVariables false
set_option linter.unusedSimpArgs false
set_option maxHeartbeats 8000000
set_option maxRecDepth 100000
namespace Go.Proofs.YtdbgldieilgnmaaGreatDoor
open Go.Proofs.Tryz
open Go.Proofs.Tryz renaming prog → qp0
open Go.ChangeShapes Go.WideShapes Go.ChangeAt Go.RowKit
section
open Go.Conc
open Cc (tp)
namespace Sr
section
variable {P:Program}{L L':FuncId->Bool}{K:Op->Bool}{S:Nat->Prop}{Φ:Frame->List Frame->World->Prop}{b:Frame}{a:Act}{k:List Item}{cs:List Frame}{w w':World}{ops:Array Oper}{i:Nat}{rest:List Nat}{o:Oper}
theorem GW.pc(hLL:∀ f,L f=true->L' f=true)(hLt:∀ t:Nat,L' (2*t+1000000000)=true->L (2*t+1000000000)=true)(hK:vB P L K)(hL:∀ f,L f=true->fK P f)(hT:Tk P L K){D:Nat->Prop}{l:List Code}{r:Code ⊕ Nat}{Q:Exit->Act->World->Prop}(hrl:okE r l)(ds:List Deferred)(m:List (Nat×Value))(hb:b.kind=.normal\/b.kind=.deferred)(ha:a.defers=[])(hc:kg P L K [] (dR l (.refuse ""))=true)(hm:kg P L K m (dR l (.refuse ""))=true)(hB:cs≠[])(hs:bU P L S D a.tmps w)(hC:∀ τ d,gB P Q l a (tp w τ d))(hE:∀ e a w,Q e a w->uE P e)(hQ:∀ e a w τ d,Q e a w->Q e a (tp w τ d))(hn:∀ e a' fr w' D',Q e a' w'->bU P L S D' a'.tmps w'->(∀ a,D a->D' a)->oN b r k e ⟨over m a'.tmps,ds⟩ fr->GW P L' S Φ fr cs w'):GW P L' S Φ (b.at ⟨over m a.tmps,ds⟩ (fQ r l::k)) cs w:=by
 have hit:Items P L K [] [.code (dR l (.refuse ""))]:=by intro x hx;simp at hx;subst hx;exact hc
 have htr:=BP (b:={b with kind:=.normal}) hK hL hT (hs.self rfl ha hit) hC hE hQ;have hT':OkT (((ds,some (r,k)),fun _=>b.kind,m):xH):=hb;have key:=GT.above (T:=((ds,some (r,k)),fun _=>b.kind,m)) (B:=cs) (Ψ:=fun fr cs' w'=>cs'=cs/\∃ e a' D',Q e a' w'/\bU P L S D' a'.tmps w'/\(∀ a,D a->D' a)/\oN b r k e ⟨over m a'.tmps,ds⟩ fr) htr hT' (by
  refine⟨?_,[],l,hrl,rfl⟩;intro x hx;have:x=.code (dR l (.refuse "")):=by simpa[Frame.at] using hx
  subst this;exact hm) hB fun fr cs' w' hi hst=>?_
 .have e:uz (((ds,some (r,k)),fun _=>b.kind,m):xH) (({b with kind:=.normal}:Frame).at a [.code (dR l (.refuse ""))]) []=b.at ⟨over m a.tmps,ds⟩ (fQ r l::k):=by
   show iR _ _=_;have:=lQ (r,k) [] l;simp only[yG] at this;unfold iR Frame.at
   simp only[this,ha,yG]
  rw[e] at key;refine(GW.mono hLL hLt key).bind fun fr cs' w' h=>?_
  obtain⟨rfl,e,a',D',h1,h2,h3,h4⟩:=h w'.tape w'.drawn;exact hn e a' fr w' D' h1 h2 h3 h4
 .refine .stop fun τ d=>?_
  obtain⟨⟨rfl,e,a',hq,hat⟩,D',hs',hsup⟩:=hst τ d;obtain⟨hst',hd⟩:=sZ hs';refine⟨rfl,e,a',D',hq,?_⟩;have sQ:bU P L S D' fr.tmps (tp w' τ d):=hst';show _/\_/\oN b r k e ⟨over m a'.tmps,ds⟩ (iR _ fr)
  cases e with
  | normal =>
   cases hat
   refine⟨sQ,hsup,?_⟩;have:o8 (some (r,k)) [fQ (.inl (.refuse "")) []]=fQ r []::k:=lQ (r,k) [] [];have hd:a'.defers=[]:=hd;unfold oN iR Frame.at
   simp only[this,hd,yG]
  | ret =>
   obtain⟨todo,rfl⟩:=hat;refine⟨sQ,hsup,o8 (some (r,k)) todo,?_⟩;have hd:a'.defers=[]:=hd;unfold iR Frame.at
   simp only[hd,yG]
  | panic ch =>
   obtain⟨todo,rfl⟩:=hat;refine⟨sQ,hsup,o8 (some (r,k)) todo,?_⟩;have hd:a'.defers=[]:=hd;unfold iR Frame.at
   simp only[hd,yG]
  | _=>exact hat.elim
theorem R8{D:Nat->Prop}{c:Code}{Q:Exit->Act->World->Prop}(hK:vB P L K)(hL:∀ f,L f=true->fK P f)(hT:Tk P L K)(hs:Self P L K true S D (b.at a [.code c,.code (.refuse "")]) [] w)(hC:∀ τ d,gB P Q [c] a (tp w τ d))(hE:∀ e a w,Q e a w->uE P e)(hQ:∀ e a w τ d,Q e a w->Q e a (tp w τ d)):GT P L K S (fun fr cs w'=>(cs=[]/\∃ e a',Q e a' w'/\oN b (.inl (.refuse "")) [] e a' fr)/\∃ D',Self P L K true S D' fr cs w'/\∀ a,D a->D' a) (b.at a [.code c,.code (.refuse "")]) [] w:=by
 refine Bo hK hL hT hs (fun τ d=>?_) fun fr cs w τ d ⟨h1,e,a',h2,h3⟩=>⟨h1,e,a',hQ e a' w τ d h2,h3⟩
 have harr:∃ e a' fr w',Q e a' w'/\oN b (.inl (.refuse "")) [] e a' fr/\Steps P (lone (b.at a [.code c,.code (.refuse "")]) [Cc.c0] (tp w τ d)) (lone fr [Cc.c0] w'):=by
  obtain⟨e,Δ,ω,hq,harr⟩:=(hC τ d) b [.code (.refuse "")] [Cc.c0]
  cases e with
  | normal=>exact⟨.normal,Δ,_,ω,hq,rfl,harr⟩
  | exit id=>exact(hE _ _ _ hq).elim
  | goto l=>exact(hE _ _ _ hq).elim
  | ret=>obtain⟨todo,hst⟩:=harr;exact⟨.ret,Δ,_,ω,hq,⟨todo,rfl⟩,hst⟩
  | panic ch=>obtain⟨todo,hst⟩:=harr;exact⟨.panic ch,Δ,_,ω,hq,⟨todo,rfl⟩,hst⟩
  | outgrown=>exact(hE _ _ _ hq).elim
 obtain⟨e,a',fr,w',hq,hat,hst⟩:=harr;refine⟨fr,[],w',hst,⟨rfl,e,a',hq,hat⟩,?_⟩;have hok:=hE e a' w' hq;rintro⟨v,g,hm,hb⟩
 cases e with
 | normal=>cases hat;cases hm
 | ret=>obtain⟨todo,rfl⟩:=hat;cases hm
 | panic ch =>
  obtain⟨todo,rfl⟩:=hat;have hm:FrameMode.panicking ch=.panicking [{v,recovered:=false,goexit:=g}]:=hm
  cases hm
  exact hok v g rfl hb
 | _=>exact hat.elim
theorem GW.pt(hLL:∀ f,L f=true->L' f=true)(hLt:∀ t:Nat,L' (2*t+1000000000)=true->L (2*t+1000000000)=true)(hK:vB P L K)(hL:∀ f,L f=true->fK P f)(hT:Tk P L K){D:Nat->Prop}{c:Code}{r:Code ⊕ Nat}{Q:Exit->Act->World->Prop}(ds:List Deferred)(m:List (Nat×Value))(hb:b.kind=.normal\/b.kind=.deferred)(ha:a.defers=[])(hc:kg P L K [] c=true)(hm:kg P L K m c=true)(hB:cs≠[])(hs:bU P L S D a.tmps w)(hC:∀ τ d,gB P Q [c] a (tp w τ d))(hE:∀ e a w,Q e a w->uE P e)(hQ:∀ e a w τ d,Q e a w->Q e a (tp w τ d))(hn:∀ e a' fr w' D',Q e a' w'->bU P L S D' a'.tmps w'->(∀ a,D a->D' a)->oN b r k e ⟨over m a'.tmps,ds⟩ fr->GW P L' S Φ fr cs w'):GW P L' S Φ (b.at ⟨over m a.tmps,ds⟩ (.code c::fQ r []::k)) cs w:=by
 have hit:Items P L K [] [.code c,.code (.refuse "")]:=by
  intro x hx;simp at hx;rcases hx with rfl|rfl
  .exact hc
  .rfl
 have htr:=R8 (b:={b with kind:=.normal}) hK hL hT (hs.self rfl ha hit) hC hE hQ;have hT':OkT (((ds,some (r,k)),fun _=>b.kind,m):xH):=hb;have key:=GT.above (T:=((ds,some (r,k)),fun _=>b.kind,m)) (B:=cs) (Ψ:=fun fr cs' w'=>cs'=cs/\∃ e a' D',Q e a' w'/\bU P L S D' a'.tmps w'/\(∀ a,D a->D' a)/\oN b r k e ⟨over m a'.tmps,ds⟩ fr) htr hT' (by
  refine⟨?_,[.code c],[],(by cases r <;> first|trivial|rfl),rfl⟩;intro x hx;have:x=.code c\/x=.code (.refuse ""):=by simpa[Frame.at] using hx
  rcases this with rfl|rfl
  .exact hm
  .rfl) hB fun fr cs' w' hi hst=>?_
 .have e:uz (((ds,some (r,k)),fun _=>b.kind,m):xH) (({b with kind:=.normal}:Frame).at a [.code c,.code (.refuse "")]) []=b.at ⟨over m a.tmps,ds⟩ (.code c::fQ r []::k):=by
   show iR _ _=_;have:o8 (some (r,k)) [.code c,.code (.refuse "")]=.code c::fQ r []::k:=lQ (r,k) [.code c] [];unfold iR Frame.at
   simp only[this,ha,yG]
  rw[e] at key;refine(GW.mono hLL hLt key).bind fun fr cs' w' h=>?_
  obtain⟨rfl,e,a',D',h1,h2,h3,h4⟩:=h w'.tape w'.drawn;exact hn e a' fr w' D' h1 h2 h3 h4
 .refine .stop fun τ d=>?_
  obtain⟨⟨rfl,e,a',hq,hat⟩,D',hs',hsup⟩:=hst τ d;obtain⟨hst',hd⟩:=sZ hs';refine⟨rfl,e,a',D',hq,?_⟩;have sQ:bU P L S D' fr.tmps (tp w' τ d):=hst';show _/\_/\oN b r k e ⟨over m a'.tmps,ds⟩ (iR _ fr)
  cases e with
  | normal =>
   cases hat
   refine⟨sQ,hsup,?_⟩;have:o8 (some (r,k)) [fQ (.inl (.refuse "")) []]=fQ r []::k:=lQ (r,k) [] [];have hd:a'.defers=[]:=hd;unfold oN iR Frame.at
   simp only[this,hd,yG]
  | ret =>
   obtain⟨todo,rfl⟩:=hat;refine⟨sQ,hsup,o8 (some (r,k)) todo,?_⟩;have hd:a'.defers=[]:=hd;unfold iR Frame.at
   simp only[hd,yG]
  | panic ch =>
   obtain⟨todo,rfl⟩:=hat;refine⟨sQ,hsup,o8 (some (r,k)) todo,?_⟩;have hd:a'.defers=[]:=hd;unfold iR Frame.at
   simp only[hd,yG]
  | _=>exact hat.elim
theorem zL{fr:Frame}(hm:fr.mode=.run)(h:∀ ops i l k,fr.todo≠.inRegion ops (i::l)::k):dS P L false fr:=by
 unfold dS;rw[hm];exact fun ops i l k o h1 _ _=>absurd h1 (h ops i l k)
theorem nL(ho:ops[i]? = some o)(hok:bT P L o.op=true)(hp:∀ x,o.op≠.panic x):dS P L false (b.at a (.inRegion ops (i::rest)::k)):=by
 unfold dS;show ∀ _ _ _ _ _,_->_
 intro ops' i' l k' o' h1 h2 _;have h1:Item.inRegion ops (i::rest)::k=.inRegion ops' (i'::l)::k':=h1
 cases h1
 rw[ho] at h2
 cases h2
 exact⟨hok,fun x hx=>absurd hx (hp x),fun _ _=>rfl,fun _ _ _=>rfl,fun _ _ _=>rfl⟩
theorem yN{fr:Frame}(hm:fr.mode≠.run)(h:∀ d ds,fr.defers=d::ds->∀ b ts t c,d.target≠.builtin b ts t c):dS P L false fr:=by
 unfold dS;split
 .rename_i hx;exact absurd hx hm
 .exact fun d ds b ts t c h1 h2=>absurd h2 (h d ds h1 b ts t c)
theorem GW.go1(x:Item)(todo':List Item)(hx:∀ ops i l,x≠.inRegion ops (i::l))(h:∀ w,stepG P false (G (b.at a (x::k)) cs) w=.go (G (b.at a todo') cs) w #[])(hn:GW P L S Φ (b.at a todo') cs w):GW P L S Φ (b.at a (x::k)) cs w :=.ctl (zL rfl fun ops i l k' e=>by
  have e:x::k=.inRegion ops (i::l)::k':=e;injection e with e1 e2;exact hx _ _ _ e1) (fun _=>.inl rfl) h hn
theorem GW.seq{x y:Code}(h:GW P L S Φ (b.at a (.code x::.code y::k)) cs w):GW P L S Φ (b.at a (.code (.seq x y)::k)) cs w:=.go1 _ _ (by simp) (fun _=>stepG_seq) h
theorem GW.skip(h:GW P L S Φ (b.at a k) cs w):GW P L S Φ (b.at a (.code .skip::k)) cs w:=.go1 _ _ (by simp) (fun _=>stepG_skip) h
theorem GW.cond{c:Operand}{x y:Code}{t:Bool}(hc:a.eval c=.bool t)(h:GW P L S Φ (b.at a (.code (if t then x else y)::k)) cs w):GW P L S Φ (b.at a (.code (.cond c x y)::k)) cs w:=.go1 _ _ (by simp) (fun _=>stepG_cond hc) h
theorem GW.block{id:Nat}{c:Code}(h:GW P L S Φ (b.at a (.code c::.inBlock id::k)) cs w):GW P L S Φ (b.at a (.code (.block id c)::k)) cs w:=.go1 _ _ (by simp) (fun _=>stepG_block) h
theorem GW.loop{c:Code}(h:GW P L S Φ (b.at a (.code c::.inLoop c::k)) cs w):GW P L S Φ (b.at a (.code (.loop c)::k)) cs w:=.go1 _ _ (by simp) (fun _=>stepG_loop) h
theorem GW.inLoop{c:Code}(h:GW P L S Φ (b.at a (.code c::.inLoop c::k)) cs w):GW P L S Φ (b.at a (.inLoop c::k)) cs w:=.go1 _ _ (by simp) (fun _=>stepG_inLoop) h
theorem GW.inBlock{id:Nat}(h:GW P L S Φ (b.at a k) cs w):GW P L S Φ (b.at a (.inBlock id::k)) cs w:=.go1 _ _ (by simp) (fun _=>stepG_inBlock) h
theorem GW.region{id:Nat}{ops:Array Oper}(h:GW P L S Φ (b.at a (.inRegion ops (List.range ops.size)::k)) cs w):GW P L S Φ (b.at a (.code (.region id ops false)::k)) cs w:=.go1 _ _ (by simp) (fun _=>stepG_region) h
theorem GW.rend{ops:Array Oper}(h:GW P L S Φ (b.at a k) cs w):GW P L S Φ (b.at a (.inRegion ops []::k)) cs w:=.go1 _ _ (by simp) (fun _=>stepG_region_end) h
theorem GW.ret(h:GW P L S Φ {b.at a (.code .ret::k) with mode:=.returning} cs w):GW P L S Φ (b.at a (.code .ret::k)) cs w :=.ctl (zL rfl fun ops i l k' e=>by
  have e:Item.code .ret::k=.inRegion ops (i::l)::k':=e
  cases e) (fun _=>.inl rfl) (fun _=>stepG_ret') h
theorem GW.fin(h:GW P L S Φ {b.at a [] with mode:=.returning} cs w):GW P L S Φ (b.at a []) cs w :=.ctl (zL rfl fun ops i l k' e=>by
  have e:([]:List Item)=.inRegion ops (i::l)::k':=e
  cases e) (fun _=>.inl rfl) (fun _=>stepG_end) h
theorem wY{S:Nat->Prop}{w:World}(h:∀ b,S b->b<w.heap.size)(ob:Obj):∀ b,S b->(w.alloc ob).heap[b]? = w.heap[b]?:=fun b hb=>by
 have:=h b hb;show(w.heap.push ob)[b]? = _;rw[Qi,if_neg (by omega)]
theorem GW.val(ho:ops[i]? = some o)(hw:Region.wanted o (yielded ops a.tmps)=true)(hk:b.kind≠.early)(hok:bT P L o.op=true)(hp:∀ x,o.op≠.panic x)(v:Value)(w':World)(h:∀ τ d,(execOp a.eval o).run P (tp w τ d)=.ok (.value v) (tp w' τ d))(hq:∀ τ d,∀ e∈(execOp a.eval o).events P (tp w τ d) #[],Qt S e)(hn:GW P L S Φ (b.at (a.put o.dst v) (.inRegion ops rest::k)) cs w')(hf:∀ b,S b->w'.heap[b]? = w.heap[b]?:=by exact fun _ _=>rfl):GW P L S Φ (b.at a (.inRegion ops (i::rest)::k)) cs w :=GW.step' (nL ho hok hp) (fun _=>.inl rfl) fun τ d=>⟨_,_,_,_,stepG_value ho hw hk (h τ d),⟨fun e he=>hq τ d e (mem_listed he),hf⟩,hn.zl τ d⟩
theorem GW.non(ho:ops[i]? = some o)(hw:Region.wanted o (yielded ops a.tmps)=true)(hk:b.kind≠.early)(hok:bT P L o.op=true)(hp:∀ x,o.op≠.panic x)(w':World)(h:∀ τ d,(execOp a.eval o).run P (tp w τ d)=.ok .skip (tp w' τ d))(hq:∀ τ d,∀ e∈(execOp a.eval o).events P (tp w τ d) #[],Qt S e)(hn:GW P L S Φ (b.at (a.put o.dst undef) (.inRegion ops rest::k)) cs w')(hf:∀ b,S b->w'.heap[b]? = w.heap[b]?:=by exact fun _ _=>rfl):GW P L S Φ (b.at a (.inRegion ops (i::rest)::k)) cs w :=GW.step' (nL ho hok hp) (fun _=>.inl rfl) fun τ d=>⟨_,_,_,_,stepG_none ho hw hk (h τ d),⟨fun e he=>hq τ d e (mem_listed he),hf⟩,hn.zl τ d⟩
theorem GW.still(ho:ops[i]? = some o)(hw:Region.wanted o (yielded ops a.tmps)=true)(hk:b.kind≠.early)(hok:bT P L o.op=true)(hp:∀ x,o.op≠.panic x)(v:Value)(h:∀ ω,(execOp a.eval o).run P ω=.ok (.value v) ω/\(execOp a.eval o).events P ω #[]=#[])(hn:GW P L S Φ (b.at (a.put o.dst v) (.inRegion ops rest::k)) cs w):GW P L S Φ (b.at a (.inRegion ops (i::rest)::k)) cs w :=.val ho hw hk hok hp v w (fun τ d=>(h _).1) (fun τ d e he=>by rw[(h _).2] at he;simp at he) hn
theorem GW.move(ho:ops[i]? = some o)(hw:Region.wanted o (yielded ops a.tmps)=true)(hk:b.kind≠.early)(hok:bT P L o.op=true){x:Operand}(hop:o.op=.move x\/o.op=.assign x)(hn:GW P L S Φ (b.at (a.put o.dst (a.eval x)) (.inRegion ops rest::k)) cs w):GW P L S Φ (b.at a (.inRegion ops (i::rest)::k)) cs w :=.still ho hw hk hok (fun y e=>by rcases hop with h|h <;> rw[h] at e <;> cases e) _ (fun ω=>hop.elim (fun h=>Cc.Iq h ω) fun h=>Cc.ze h ω) hn
theorem GW.enter(ho:ops[i]? = some o)(hw:Region.wanted o (yielded ops a.tmps)=true)(hk:b.kind≠.early)(hok:bT P L o.op=true)(hp:∀ x,o.op≠.panic x)(f:FuncId)(args:Array Value)(h:∀ ω,(execOp a.eval o).run P ω=.ok (.enter f args) ω/\(execOp a.eval o).events P ω #[]=#[])(hn:GW P L S Φ (Frame.enter P f args .normal) (b.at a (.inRegion ops (i::rest)::k)::cs) w):GW P L S Φ (b.at a (.inRegion ops (i::rest)::k)) cs w :=GW.step' (nL ho hok hp) (fun _=>.inl rfl) fun τ d=>⟨_,_,_,_,stepG_enter ho hw hk (h _).1,⟨fun e he=>by have:=mem_listed he;rw[(h _).2] at this;simp at this,fun _ _=>rfl⟩,hn.zl τ d⟩
theorem GW.leave{fn:Func}{todo:List Item}{c:Frame}{v:Value}(hn:b.kind=.normal)(hd:a.defers=[])(hf:P.funcs[b.fn]? = some fn)(hr:∀ w,(results fn a.tmps).run P w=.ok v w/\(results fn a.tmps).events P w #[]=#[])(hg:GW P L S Φ (c.finish v) cs w):GW P L S Φ {b.at a todo with mode:=.returning} (c::cs) w :=GW.step' (yN (by simp) fun d ds h=>by rw[show({b.at a todo with mode:=.returning}:Frame).defers=a.defers from rfl,hd] at h;cases h) (by simp) fun τ d=>⟨_,_,_,_,stepG_leave hn hd hf (hr _).1 (hr _).2,QS.nil,hg.zl τ d⟩
theorem GW.pe(hLL:∀ f,L f=true->L' f=true)(hLt:∀ t:Nat,L' (2*t+1000000000)=true->L (2*t+1000000000)=true)(hK:vB P L K)(hL:∀ f,L f=true->fK P f)(hT:Tk P L K){D:Nat->Prop}{c:Code}{Q:Act->World->Prop}(hb:b.kind=.normal\/b.kind=.deferred)(ha:a.defers=[])(hc:kg P L K [] c=true)(hB:cs≠[])(hs:bU P L S D a.tmps w)(hC:∀ τ d,c.wp P (fun e a w=>e=.normal/\Q a w) a (tp w τ d))(hQ:∀ a w τ d,Q a w->Q a (tp w τ d))(hn:∀ a' w' D',Q a' w'->a'.defers=[]->bU P L S D' a'.tmps w'->GW P L' S Φ (b.at a' []) cs w'):GW P L' S Φ (b.at a [.code c]) cs w:=by
 have hit:Items P L K [] [.code c]:=by intro x hx;simp at hx;subst hx;exact hc
 have htr:GT P L K S (fun fr cs w'=>(cs=[]/\∃ a',Q a' w'/\fr=({b with kind:=.normal}:Frame).at a' [])/\∃ D',Self P L K true S D' fr cs w'/\∀ a,D a->D' a) (({b with kind:=.normal}:Frame).at a [.code c]) [] w:=by
  refine Bo hK hL hT (hs.self rfl ha hit) (fun τ d=>?_) fun fr cs w τ d ⟨h1,a',h2,h3⟩=>⟨h1,a',hQ a' w τ d h2,h3⟩
  obtain⟨e,Δ,ω,⟨rfl,hq⟩,harr⟩:=(hC τ d) {b with kind:=.normal} [] [Cc.c0];exact⟨_,[],ω,harr,⟨rfl,Δ,hq,rfl⟩,fun⟨v,g,hm,_⟩=>by cases hm⟩
 have hT':OkT ((([],none),fun _=>b.kind,[]):xH):=hb;have key:=GT.above (T:=(([],none),fun _=>b.kind,[])) (B:=cs) (Ψ:=fun fr cs' w'=>cs'=cs/\∃ a' D',Q a' w'/\a'.defers=[]/\bU P L S D' a'.tmps w'/\fr=b.at a' []) htr hT' ⟨hit,trivial⟩ hB fun fr cs' w' hi hst=>?_
 .have e:uz ((([],none),fun _=>b.kind,[]):xH) (({b with kind:=.normal}:Frame).at a [.code c]) []=b.at a [.code c]:=by
   show iR _ _=_;unfold iR Frame.at o8 over;simp
  rw[e] at key;refine(GW.mono hLL hLt key).bind fun fr cs' w' h=>?_
  obtain⟨rfl,a',D',h1,h2,h3,rfl⟩:=h w'.tape w'.drawn;exact hn a' w' D' h1 h2 h3
 .refine .stop fun τ d=>?_
  obtain⟨⟨rfl,a',hq,rfl⟩,D',hs',hsup⟩:=hst τ d;obtain⟨hst',hd⟩:=sZ hs';refine⟨rfl,a',D',hq,hd,hst',?_⟩;show iR _ _=_;unfold iR Frame.at o8 over;simp
theorem TL{main:Bool}{f:FuncId}{fn:Func}{cd:Code}{caps t:Array Value}{ds:List Deferred}{todo:List Item}{M:FrameMode}(hM:M=.returning\/∃ ch,M=.panicking ch)(hf:P.funcs[f]? = some fn)(hname:(fn.name == "runtime.NumGoroutine")=false)(hb:fn.body=some cd):stepG P main (G {b.at ⟨t,{target:=.fn (.func f) caps,args:=#[]}::ds⟩ todo with mode:=M} cs) w=.go (G (Frame.enter P f caps .deferred) ({b.at ⟨t,ds⟩ todo with mode:=M}::cs)) w #[]:=by
 have h1:¬ fn.name = "runtime.NumGoroutine":=by simpa using hname
 rcases hM with rfl|⟨ch,rfl⟩ <;> simp[G,stepG,unwind,callDeferred,Frame.at,invoke,callFunc,hf,h1,hb,GStep.after,seen_none]
theorem GW.out{f:FuncId}{fn:Func}{cd:Code}{caps t:Array Value}{ds:List Deferred}{todo:List Item}{M:FrameMode}(hM:M=.returning\/∃ ch,M=.panicking ch)(hf:P.funcs[f]? = some fn)(hname:(fn.name == "runtime.NumGoroutine")=false)(hb:fn.body=some cd)(h:GW P L S Φ (Frame.enter P f caps .deferred) ({b.at ⟨t,ds⟩ todo with mode:=M}::cs) w):GW P L S Φ {b.at ⟨t,{target:=.fn (.func f) caps,args:=#[]}::ds⟩ todo with mode:=M} cs w :=GW.step' (yN (by rcases hM with rfl|⟨ch,rfl⟩ <;> simp) fun d ds' e b' ts t' c' e2=>by
  have e:{target:=.fn (.func f) caps,args:=#[]}::ds=d::ds':=e;injection e with e1 _;subst e1
  cases e2) (fun _=>.inr (by simp[Frame.at])) fun τ d=>⟨_,_,_,_,TL hM hf hname hb,QS.nil,h.zl τ d⟩
theorem GW.back{fn:Func}{todo:List Item}{c:Frame}{v:Value}(hn:b.kind=.normal\/b.kind=.deferred)(hd:a.defers=[])(hf:P.funcs[b.fn]? = some fn)(hr:∀ w,(results fn a.tmps).run P w=.ok v w/\(results fn a.tmps).events P w #[]=#[])(hg:GW P L S Φ (back b.kind c v) cs w):GW P L S Φ {b.at a todo with mode:=.returning} (c::cs) w :=GW.step' (yN (by simp) fun d ds h=>by rw[show({b.at a todo with mode:=.returning}:Frame).defers=a.defers from rfl,hd] at h;cases h) (by simp) fun τ d=>⟨_,_,_,#[],by
  have e:=jE (P:=P) (main:=false) (fr:={b.at a todo with mode:=.returning}) (c:=c) (cs:=cs) (v:=v) (w:=tp w τ d) hn;have h1:=(hr (tp w τ d)).1;have h2:=(hr (tp w τ d)).2;rw[<-Sem.runT_fst] at h1;rw[nC (by simp)];unfold unwind;have hd':({b.at a todo with mode:=.returning}:Frame).defers=[]:=hd;rw[hd'];dsimp only
  rw[show({b.at a todo with mode:=.returning}:Frame).fn=b.fn from rfl,hf];dsimp only
  have hrt:(results fn a.tmps).runT P (tp w τ d) #[]=(.ok v (tp w τ d),#[]):=Prod.ext h1 h2;rw[show({b.at a todo with mode:=.returning}:Frame).tmps=a.tmps from rfl,hrt];dsimp only
  refine(congrArg (GStep.after (seen P b.fn #[])) e).trans ?_;simp[GStep.after,seen_none];rfl,QS.nil,hg.zl τ d⟩
theorem GW.recover{c:Frame}{v:Value}{ps:List PanicEntry}(ho:ops[i]? = some o)(hw:Region.wanted o (yielded ops a.tmps)=true)(hk:b.kind=.deferred)(hop:o.op=.call {callee:=.builtin .recover,args:=#[],argTypes:=#[]})(hok:bT P L o.op=true)(hc:c.mode=.panicking ({v,recovered:=false}::ps))(hn:GW P L S Φ (b.at (a.put o.dst v) (.inRegion ops rest::k)) ({c with mode:=.panicking ({v,recovered:=true}::ps)}::cs) w):GW P L S Φ (b.at a (.inRegion ops (i::rest)::k)) (c::cs) w:=by
 refine GW.step' (nL ho hok fun x e=>by rw[hop] at e;cases e) (fun _=>.inl rfl) fun τ d=>⟨_,_,_,#[],?_,QS.nil,hn.zl τ d⟩
 have hfin:(b.at a (.inRegion ops (i::rest)::k)).finish v=b.at (a.put o.dst v) (.inRegion ops rest::k):=by rw[Frame.finish_at,ho];rfl
 rw[stepG_oper ho hw,<-hfin];have hr:(execOp a.eval o).run P (tp w τ d)=.ok .recover (tp w τ d):=by unfold execOp;simp[go_sem,hop]
 have he:(execOp a.eval o).events P (tp w τ d) #[]=#[]:=by unfold execOp;simp[go_sem,hop]
 simp[stepG.apply,hr,he,G,Frame.at,hk,GStep.after,seen_none,tryRecover,hc]
theorem GW.VW{c:Frame}(ho:ops[i]? = some o)(hw:Region.wanted o (yielded ops a.tmps)=true)(hk:b.kind=.deferred)(hop:o.op=.call {callee:=.builtin .recover,args:=#[],argTypes:=#[]})(hok:bT P L o.op=true)(hc:c.mode=.returning)(hn:GW P L S Φ (b.at (a.put o.dst .nilIface) (.inRegion ops rest::k)) (c::cs) w):GW P L S Φ (b.at a (.inRegion ops (i::rest)::k)) (c::cs) w:=by
 refine GW.step' (nL ho hok fun x e=>by rw[hop] at e;cases e) (fun _=>.inl rfl) fun τ d=>⟨_,_,_,#[],?_,QS.nil,hn.zl τ d⟩
 have hfin:(b.at a (.inRegion ops (i::rest)::k)).finish .nilIface=b.at (a.put o.dst .nilIface) (.inRegion ops rest::k):=by rw[Frame.finish_at,ho];rfl
 rw[stepG_oper ho hw,<-hfin];have hr:(execOp a.eval o).run P (tp w τ d)=.ok .recover (tp w τ d):=by unfold execOp;simp[go_sem,hop]
 have he:(execOp a.eval o).events P (tp w τ d) #[]=#[]:=by unfold execOp;simp[go_sem,hop]
 simp[stepG.apply,hr,he,G,Frame.at,hk,GStep.after,seen_none,tryRecover,hc]
theorem GW.dfr{dd:Deferred}(ho:ops[i]? = some o)(hw:Region.wanted o (yielded ops a.tmps)=true)(hk:b.kind≠.early)(hok:bT P L o.op=true)(hp:∀ x,o.op≠.panic x)(h:∀ ω,(execOp a.eval o).run P ω=.ok (.defer dd) ω/\(execOp a.eval o).events P ω #[]=#[])(hn:GW P L S Φ (b.at (Act.put ⟨a.tmps,dd::a.defers⟩ o.dst undef) (.inRegion ops rest::k)) cs w):GW P L S Φ (b.at a (.inRegion ops (i::rest)::k)) cs w:=by
 refine GW.step' (nL ho hok hp) (fun _=>.inl rfl) fun τ d=>⟨_,_,_,#[],?_,QS.nil,hn.zl τ d⟩
 have hfin:(b.at ⟨a.tmps,dd::a.defers⟩ (.inRegion ops (i::rest)::k)).finish undef=b.at (Act.put ⟨a.tmps,dd::a.defers⟩ o.dst undef) (.inRegion ops rest::k):=by rw[Frame.finish_at,ho];rfl
 have hk':(b.kind==CallKind.early)=false:=by simpa using hk
 rw[stepG_oper ho hw,<-hfin];simp[stepG.apply,(h (tp w τ d)).1,(h (tp w τ d)).2,G,Frame.at,hk',GStep.after,seen_none]
end
end Sr
end
section
open Go.Conc
namespace Cc
def Rh(P:Program)(L:List FuncId):Bool:=(L.all fun f=>match P.funcs[f]? with
 | some fn=>match fn.body with
  | some c=>gU P L c
  | none=>true
 | none=>true)&&P.funcs.all fun f=>((f.body.map readies).getD []).isEmpty
theorem F7{P:Program}{L:List FuncId}(h:Rh P L=true)(hE:J8 P L):fO P L:=by
 unfold Rh at h;rw[fE,Ej,qbO] at h;refine⟨fun f hf fn c hfn hb=>?_,fun g=>?_,hE⟩
 .unfold oD at hf;rw[fE] at hf;have:=h.1 f (by simpa using hf.1);rw[hfn] at this;simp only[hb] at this;exact this
 .unfold Program.stepOf;rw[Array.findIdx?_eq_none_iff];intro f hf;have:=h.2 f hf
  cases hb:f.body with
  | none=>rfl
  | some c =>
   rw[hb] at this;simp only[MK,Option.getD_some,List.isEmpty_iff] at this;simp[this]
end Cc
end
section
section
variable {P:Program}{w:World}
theorem I7{e:TypeId}(he:P.underlying e=some (.int .u8))(x:List UInt8)(i:Nat)(hi:i<x.length):(part e (x.map jJ).toArray i).run P w=.ok (.int .u8 ((x.getD i 0).toNat:Int)) w:=by
 simp[part,isAgg,run_underlying he,Result.andThen,hi,jJ,List.getD,kM hi]
theorem forIn_eq{e:TypeId}(he:P.underlying e=some (.int .u8))(d n:Nat)(x y:List UInt8)(hx:x.length=n)(hy:y.length=n):∀ (m k:Nat),k+m=n -> (forIn (List.range' k m) ((none,()):Option Bool×Unit) (fun i _=>do
     let a <-part e (List.map jJ x).toArray i
     let b <-part e (List.map jJ y).toArray i
     let r <-Op.equalIn (d+1) e a b
     if r=false then pure (ForInStep.done (some false,())) else pure (ForInStep.yield (none,()))):Sem (Option Bool×Unit)).run P w=.ok (if x.drop k=y.drop k then(none,()) else(some false,())) w
 | 0,k,hk=>by
  rw[qa9 (by omega),qa9 (by omega)];simp
 | m+1,k,hk=>by
  have ih:=forIn_eq he d n x y hx hy m (k+1) (by omega);have hkx:k<x.length:=by omega
  have hky:k<y.length:=by omega
  have ex:x.getD k 0=x[k]:=by simp[List.getD,kM hkx]
  have ey:y.getD k 0=y[k]:=by simp[List.getD,kM hky]
  rw[List.range'_succ,qbn];simp only[Sem.run_bind,I7 he x k hkx,I7 he y k hky,Result.andThen_ok,run_equalIn_int w d e .u8 .u8 _ _ he,ex,ey];rw[qbJ hkx,qbJ hky];by_cases h:x[k]=y[k]
  .have hb:(((x[k]).toNat:Int)==((y[k]).toNat:Int))=true:=by rw[h];simp
   simp only[hb,qbo,h,true_and];simp only[BEq.rfl,Bool.true_eq_false,if_false,Sem.run_pure,Result.andThen_ok];exact ih
  .have hb:(((x[k]).toNat:Int)==((y[k]).toNat:Int))=false:=by rw[beq_eq_false_iff_ne];intro h2;exact h (VL.1 (by omega))
   simp only[hb,qbo,h,false_and,if_false,if_true,Sem.run_pure,Result.andThen_ok]
theorem KT(d n:Nat)(t e:TypeId)(x y:List UInt8)(ht:P.underlying t=some (.array n e))(he:P.underlying e=some (.int .u8))(hs:(P.info? e).map (·.size)=some 1)(hx:x.length=n)(hy:y.length=n):(Op.equalIn (d+2) t (.agg (x.map jJ).toArray) (.agg (y.map jJ).toArray)).run P w=.ok (decide (x=y)) w:=by
 obtain⟨i,hi,h1⟩:=zA.1 hs;rw[Op.equalIn];simp[run_underlying ht,sizeOf,typeInfo,hi,h1,Result.andThen];rw[forIn_eq he d n x y hx hy n 0 (by omega)];simp only[List.drop_zero];by_cases h:x=y
 .simp[h]
 .simp[h]
end
end
section
def aL(l:List UInt8):Array Value:=(l.map jJ).toArray
theorem eZ(l:List UInt8):(aL l).size=l.length:=by simp[aL]
theorem sI(l:List UInt8):∀ u∈(aL l).toList,u.oneCell'=true:=by simpa[aL] using kY l
theorem tF(l:List UInt8)(k:Nat)(h:k<l.length):(aL l)[k]? = some (.int .u8 ((l.getD k 0).toNat:Int)):=by
 simp[aL,List.getD,kM h,jJ]
theorem wQ(l:List UInt8)(k:Nat)(b:UInt8):(aL l).setIfInBounds k (jJ b)=aL (l.set k b):=by
 simp[aL,List.map_set]
theorem Nj{w:World}{g:Nat}{l:List UInt8}{e:TypeId}{fr:Nat×Nat}(h:w.heap[g]? = some (.cells (aL l) e fr))(L M c:Nat)(h1:L<=M)(h2:M<=l.length)(h3:M-L<=c)(h4:c<=maxLen):Bs w (some ⟨g,L,none⟩) (M-L) c ((l.take M).drop L):=by
 refine⟨by simp;omega,h3,h4,fun j x hj=>⟨_,rfl,?_⟩,fun h=>by cases h⟩;rw[Addr.add_lit,cell_of_row _ _ _ _ _ _ h];rw[qce,qbZ,qbE,VX] at hj;split at hj
 .simpa[aL] using hj
 .cases hj
structure ko(w:World)(e:TypeId)(l:List UInt8)(wr:World):Prop where
 bJ:Below w.heap.size w wr
 row:wr.heap[w.heap.size]? = some (.cells (aL l) e (0,0))
theorem ko.new(w:World)(e:TypeId)(l:List UInt8):ko w e l (w.alloc (.cells (aL l) e)):=⟨(Below.refl _ _).alloc (aY _) _,heap_alloc_new w _⟩
theorem ko.set{w wr:World}{e:TypeId}{l:List UInt8}(h:ko w e l wr)(k:Nat)(b:UInt8):ko w e (l.set k b) (wr.setCell ⟨w.heap.size,k,none⟩ (.int .u8 (b.toNat:Int))):=by
 refine⟨h.bJ.setCell (by simp) _,?_⟩;rw[heap_setCell_same _ _ _ _ _ _ h.row,show(Value.int .u8 (b.toNat:Int))=jJ b from rfl,wQ]
theorem ko.cell{w wr:World}{e:TypeId}{l:List UInt8}(h:ko w e l wr)(k:Nat)(hk:k<l.length):wr.cell? ⟨w.heap.size,k,none⟩=some (.int .u8 ((l.getD k 0).toNat:Int)):=by
 rw[cell_of_row _ _ _ _ _ _ h.row,tF _ _ hk]
theorem ko.ac8{w wr:World}{e:TypeId}{l:List UInt8}(h:ko w e l wr)(k:Nat):wr.frozen? ⟨w.heap.size,k,none⟩=false:=frozen_of_row _ _ _ _ _ h.row
section
variable {P:Program}{ops:Array Oper}{rest:List Oper}{o:Oper}{a:Act}{w:World}{Q:Exit->Act->World->Prop}
theorem bA(hgd:o.guard=none)(t:TypeId)(x:Operand)(lo hi:Option Operand)(ho:o.op=.slice t x lo hi none){e:TypeId}{n:Nat}(ht:P.underlying t=some (.array n e))(hsz:(P.info? e).map (·.size)=some 1)(g:Nat)(hx:a.eval x=.pointer (some ⟨g,0,none⟩))(L M:Nat)(k1 k2:IntKind)(hL:match lo with|some p=>a.eval p=.int k1 (L:Int)|none=>L=0)(hM:match hi with|some p=>a.eval p=.int k2 (M:Int)|none=>M=n)(h1:L<=M)(h2:M<=n)(h3:L<n)(h:wpList P ops Q rest (a.put o.dst (.slice (some ⟨g,L,none⟩) (M-L) (n-L))) w):wpList P ops Q (o::rest) a w:=by
 refine bI hgd _ _ ?_ h;obtain⟨i,hi',hs'⟩:=zA.1 hsz;have hne:¬ n=L:=by omega
 have e1:(L:Int)<=M:=by omega
 have e2:(M:Int)<=n:=by omega
 have e3:(L:Int)<=n:=by omega
 have f3:L<=n:=by omega
 have ha:(Addr.add ⟨g,0,none⟩ L)=(⟨g,L,none⟩:Addr):=by rw[Addr.add_lit,lU]
 cases lo <;> cases hi <;> simp only at hL hM
 all_goals first|subst hL|skip
 all_goals first|subst hM|skip
 all_goals simp[execOp,ho,hx,Instr.sliceAt,Instr.sureAddr,Instr.sliceBounds,Instr.sliceBound,run_underlying ht,sizeOf,typeInfo,hi',hs',asIntOf,hne,Result.andThen, *]
end
end
def cZ:List UInt8:=List.replicate 512 0
theorem nS:cZ.length=512:=by unfold cZ;rw[Xm]
theorem Bw:(qp0.info? 70).bind (·.zero)=some (.agg (aL cZ)):=by kernel_rfl
theorem VD(w:World):(Instr.build 70 #[]).run qp0 w=.ok (.agg (aL cZ)) w:=by kernel_rfl
theorem iL(l:List UInt8)(h:l.length=512):(qp0.info? 70).map (·.size)=some (aL l).size:=by rw[eZ,h];kernel_rfl
theorem ae9(x y:List UInt8)(hx:x.length=512)(hy:y.length=512)(w:World):(Op.equalIn 10000 70 (.agg (aL x)) (.agg (aL y))).run qp0 w=.ok (decide (x=y)) w :=KT 9998 512 70 5 x y underlying70 underlying5 (by kernel_rfl) hx hy
theorem abE(x y:List UInt8)(hx:x.length=512)(hy:y.length=512)(w:World):(binOp .eql 70 (.agg (aL x)) (.agg (aL y))).run qp0 w=.ok (.bool (decide (x=y))) w:=by
 rw[run_eql_struct,ae9 x y hx hy];rfl
theorem VA:qp0.eqGuardType qp0.depth 70=false:=by kernel_rfl
theorem CK(l:List UInt8)(hl:l.length=512)(w:World):Calls qp0 144 #[.agg (aL l)] w fun e w'=>e=.returned (.bool (decide (l=cZ)))/\Below w.heap.size w w':=by
 have hq:=abE l cZ hl nS;have hm:=VA;generalize decide (l=cZ)=r at *
 have hi:=ah (iL l hl);go_enter func144,ntmps144;go_wp2_with (first|(with_reducible first|refine dO rfl _ _ rfl (aL l) rfl ?_|refine wpList_load_row rfl _ _ rfl w.heap.size rfl 70 (aL l) (0,0) _ (heap_alloc_new w _) underlying70 rfl hi.out ?_|refine CO rfl _ rfl _ VD ?_))
 go_ret;exact⟨rfl,(Below.refl _ _).alloc (aY _) _⟩
theorem Qk{w:World}{a:Option Addr}{n c:Nat}{l:List UInt8}(h:Bs w a n c l)(M:Nat)(hM:M<=n):Bs w a M c (l.take M):=by
 have hl:=h.len;have hc:=h.cap;refine⟨by simp;omega,by omega,h.2.2.1,fun j v hj=>h.2.2.2.1 j v ?_,fun hn=>by have:=h.2.2.2.2 hn;omega⟩;rw[qbZ,VX] at hj;split at hj
 .exact hj
 .cases hj
section
open Go.Conc
namespace Cc
theorem NP{w:World}{base:Nat}{e:TypeId}{sz:Nat}{v:Value}{n:Nat}{xs:List Value}(h:w.ownsRow base e sz v n xs){p:Nat}(hp:∀ k,v.ownBlock=some k->k<p)(cs:Array Value):(w.setRow p cs).ownsRow base e sz v n xs:=by
 have hlt:=h.lt;obtain⟨h1,h2⟩:=h;refine⟨h1,?_⟩;rcases h2 with h2|⟨g,cap,cur,hv,hg,hh,r⟩
 .exact Or.inl h2
 .have:=hp g (by rw[hv];rfl);exact Or.inr ⟨g,cap,cur,hv,hg,by rw[setRow_other w p g cs (by omega)];exact hh,r⟩
section
variable {P:Program}{w0:World}{c:Nat}{Stop:Goroutine->World->Prop}{b:Frame}{a:Act}{k:List Item}{cs:List Frame}{w:World}{ops:Array Oper}{i:Nat}{rest:List Nat}{o:Oper}{n:Nat}
theorem YX{t:TypeId}(hop:o.op=.alloc t){z:Array Value}(hz:(P.info? t).bind (·.zero)=some (.agg z))(w:World):(execOp a.eval o).events P w #[]=#[]:=by
 obtain⟨i,hi,h0⟩:=qbc.1 hz;unfold execOp;simp[go_sem,hop,Instr.alloc,zeroValue,typeInfo,hi,h0,newVar,newRow,Value.cells]
theorem ad7{x:Operand}{t e:TypeId}{z:Array Value}(hop:o.op=.buildSlice t 1 #[(0,x)])(ht:P.underlying t=some (.slice e))(cs:Array Value)(hi:(P.info? e).map (fun i=>(i.zero,i.size))=some (some (.agg z),cs.size))(hpos:0<cs.size)(hlim:cs.size<=16777216)(hx:a.eval x=.agg cs)(w:World):(execOp a.eval o).events P w #[]=#[]:=by
 obtain⟨i,hi',hh⟩:=zA.1 hi;simp only[MV] at hh;obtain⟨h0,h1⟩:=hh;have hne:¬ cs.size=0:=by omega
 have Yv:¬ 16777216<cs.size:=by omega
 have hf:=fill_whole ((Array.range (1*cs.size)).map (z[·%z.size]!)) cs cs.size (by simp) rfl;simp only[Nat.one_mul] at hf;simp[execOp,hop,hx,Instr.buildSlice,run_underlying ht,sizeOf,zeroValue,typeInfo,hi',h0,h1,hne,Yv,Value.cells,hf,newRow]
theorem YV{x y:Operand}{ty:TypeId}(hop:o.op=.store ty x y)(g:Nat)(hx:a.eval x=.pointer (some ⟨g,0,none⟩))(cs:Array Value)(hy:a.eval y=.agg cs)(old:Array Value)(t:TypeId)(w:World)(hh:w.heap[g]? = some (.cells old t (0,0)))(hsz:old.size=cs.size)(hi:(P.info? ty).map (·.size)=some cs.size)(h1:∀ u∈cs.toList,u.oneCell'=true):∀ e∈(execOp a.eval o).events P w #[],∀ ad,e.loc=.cell ad->ad.block=g:=by
 intro e he ad had;obtain⟨i,hi',hs'⟩:=zA.1 hi;simp[execOp,hop,hx,hy,Instr.storeAt,Instr.sureAddr,storeVar,sizeOf,typeInfo,hi',hs',Value.cells] at he;rcases events_storeCells_at (P:=P) g 0 t cs.toList 0 old w #[] hh (by simp;omega) h1 e he with h|⟨Un,h2,h3⟩
 .simp at h
 .rw[had] at h2;cases h2;exact h3
end
section
variable (c:Nat)(cs:List Frame)(d:Value)
end
section
variable (wE w0:World)(cs:List Frame)(d:Value){Stop:Goroutine->World->Prop}
end
end Cc
end
section
open Go.Conc
namespace Cc
section
variable {P:Program}{w:World}{Φ:Goroutine->World->Prop}{b:Frame}{a:Act}{k:List Item}{cs:List Frame}{ops:Array Oper}{i:Nat}{rest:List Nat}{o:Oper}
theorem BW.jU(ho:ops[i]? = some o)(hw:Region.wanted o (yielded ops a.tmps)=true)(hk:b.kind≠.early)(v:Value)(h:∀ ω,(execOp a.eval o).run P ω=.ok (.value v) ω/\(execOp a.eval o).events P ω #[]=#[])(hn:BW P (G (b.at (a.put o.dst v) (.inRegion ops rest::k)) cs) w Φ):BW P (G (b.at a (.inRegion ops (i::rest)::k)) cs) w Φ :=.ctl rfl (fun ω=>by
  rw[stepG_value ho hw hk (h ω).1];unfold listed;rw[(h ω).2,seen_none]) hn
theorem BW.move(ho:ops[i]? = some o)(hw:Region.wanted o (yielded ops a.tmps)=true)(hk:b.kind≠.early){x:Operand}(hop:o.op=.move x\/o.op=.assign x)(hn:BW P (G (b.at (a.put o.dst (a.eval x)) (.inRegion ops rest::k)) cs) w Φ):BW P (G (b.at a (.inRegion ops (i::rest)::k)) cs) w Φ :=.jU ho hw hk _ (fun ω=>hop.elim (fun h=>Iq h ω) fun h=>ze h ω) hn
theorem BW.ret(h:BW P (G {b.at a (.code .ret::k) with mode:=.returning} cs) w Φ):BW P (G (b.at a (.code .ret::k)) cs) w Φ:=.ctl rfl (fun _=>by rw[stepG_ret']) h
theorem BW.makeChan(ho:ops[i]? = some o)(hw:Region.wanted o (yielded ops a.tmps)=true)(hk:b.kind≠.early){t e:TypeId}{dir:ChanDir}{x:Operand}(hop:o.op=.makeChan t x)(ht:P.underlying t=some (.chan dir e)){inf:TypeInfo}(hi:P.info? e=some inf)(n:Nat)(hx:a.eval x=.int .i64 n)(hn:(n:Int)<=9223372036854775807)(hb:(inf.bytes:Int)*n<=281474976710544)(h:BW P (G (b.at (a.put o.dst (.chan (some w.heap.size))) (.inRegion ops rest::k)) cs) (w.alloc (.chan n #[] false 0 0 false)) Φ):BW P (G (b.at a (.inRegion ops (i::rest)::k)) cs) w Φ:=by
 refine BW.step rfl fun d=>?_
 have hr:(execOp a.eval o).run P (w.at d)=.ok (.value (.chan (some w.heap.size))) ((w.at d).alloc (.chan n #[] false 0 0 false)):=by
  simp[execOp,hop,hx,run_makeChan (P:=P) (w:=w.at d) ht hi .i64 n hn hb,Result.andThen];rfl
 have he:(execOp a.eval o).events P (w.at d) #[]=#[]:=by
  simp[execOp,hop,hx,events_makeChan (P:=P) (w:=w.at d) ht hi .i64 n hn hb,run_makeChan (P:=P) (w:=w.at d) ht hi .i64 n hn hb,Result.evThen]
 refine⟨_,(w.at d).alloc (.chan n #[] false 0 0 false),#[],?_,by simp;exact Nat.le_succ _,by simp,h.at d⟩;rw[stepG_value ho hw hk hr];unfold listed;rw[he,seen_none]
end
def fI(w w':World):Prop:=Below w.heap.size (tp w w'.tape w'.drawn) w'
theorem fI.tp{w w':World}(h:fI w w')(τ:Nat->Question->Nat)(d:Nat):fI w (tp w' τ d):=⟨h.os,rfl,h.output,h.size,h.block⟩
theorem fI.of{w w':World}(h:Below w.heap.size w w'):fI w w':=⟨h.os,rfl,h.output,h.size,h.block⟩
theorem fI.pR{w w':World}{τ:Nat->Question->Nat}{d:Nat}(h:Below w.heap.size (Cc.tp w τ d) w'):fI w w':=⟨h.os,rfl,h.output,h.size,h.block⟩
theorem fI.seq{w w' w'':World}(h:fI w w')(h':fI w' w''):fI w w'':=⟨h'.os.trans h.os,rfl,h'.output.trans h.output,tT h.size h'.size,fun k hk=>(h'.block k (CW hk h.size)).trans (h.block k hk)⟩
theorem fI.refl(w:World):fI w w:=⟨rfl,rfl,rfl,aY _,fun _ _=>rfl⟩
theorem fI.keeps{w w':World}(h:fI w w'):Keeps w w':=fun p v hv=>by
 have hlt:=World.block_lt_of_cell? (w:=w) (a:=p) hv;rw[World.cell?_of_block (w:=w) (h.block p.block hlt)];exact hv
section
variable {w:World}{Φ:Goroutine->World->Prop}{b:Frame}{a:Act}{k:List Item}{cs:List Frame}{ops:Array Oper}{i:Nat}{rest:List Nat}{o:Oper}
end
end Cc
end
section
open Go.Conc
namespace Cc
section
variable {P:Program}{L:List FuncId}{w:World}{Φ:Goroutine->World->Prop}{b:Frame}{a:Act}{k:List Item}{cs:List Frame}{ops:Array Oper}{i:Nat}{rest:List Nat}{o:Oper}
theorem BW.op1{Rr:Act->World->Prop}(hP:fO P L)(ho:ops[i]? = some o)(hk:b.kind≠.early)(hok:bT P [] o.op=true)(hw:∀ τ d,wpList P ops (fun e a w=>e=.normal/\Rr a w) [o] a (tp w τ d))(hR:∀ a w τ d,Rr a w->Rr a (tp w τ d))(hn:∀ a' w',Rr a' w'->BW P (G (b.at a' (.inRegion ops rest::k)) cs) w' Φ):BW P (G (b.at a (.inRegion ops (i::rest)::k)) cs) w Φ:=by
 have hpos:∀ j,j<[o].length->[o][j]? = ops[i+j]?:=fun j hj=>by
  have:j=0:=by simpa using hj
  subst this;simpa using ho.symm
 have:=BW.ops (rest:=rest) (k:=k) (cs:=cs) (Φ:=Φ) [o] i hk hP hpos (by simpa using hok) hw hR hn;simpa using this
theorem BW.TV(v:Value){Rw:World->Prop}(hP:fO P L)(ho:ops[i]? = some o)(hk:b.kind≠.early)(hok:bT P [] o.op=true)(hw:∀ τ d,wpList P ops (fun e x y=>e=.normal/\x=a.put o.dst v/\Rw y) [o] a (tp w τ d))(hR:∀ w τ d,Rw w->Rw (tp w τ d))(hn:∀ w',Rw w'->BW P (G (b.at (a.put o.dst v) (.inRegion ops rest::k)) cs) w' Φ):BW P (G (b.at a (.inRegion ops (i::rest)::k)) cs) w Φ :=BW.op1 (Rr:=fun x y=>x=a.put o.dst v/\Rw y) hP ho hk hok hw (fun _ _ _ _ h=>⟨h.1,hR _ _ _ h.2⟩) fun _ _ h=>h.1 ▸ hn _ h.2
theorem BW.aie{id:Nat}{l:List Oper}(a':Act)(hP:fO P L)(hk:b.kind≠.early)(hok:(l.all fun o=>bT P [] o.op)=true)(hw:∀ τ d,wpList P l.toArray (fun e x y=>e=.normal/\x=a'/\y=tp w τ d) l a (tp w τ d))(hn:BW P (G (b.at a' k) cs) w Φ):BW P (G (b.at a (.code (.region id l.toArray false)::k)) cs) w Φ:=by
 refine BW.region ?_;have:=BW.still (ops:=l.toArray) (rest:=[]) (k:=k) (cs:=cs) (Φ:=Φ) a' l 0 hk hP (fun j hj=>by simp) hok hw (BW.rend hn);simpa using this
end
theorem u7{P:Program}{fn:Func}{R R':Value->World->Prop}(h:∀ v w,R v w->R' v w){e:Exit}{a:Act}{w:World}(hq:bodyPost P fn (fun e w'=>∃ v,e=.returned v/\R v w') e a w):bodyPost P fn (fun e w'=>∃ v,e=.returned v/\R' v w') e a w:=by
 cases e with
 | normal=>obtain⟨h1,v,h2,v',h3,h4⟩:=hq;exact⟨h1,v,h2,v',h3,h _ _ h4⟩
 | ret=>obtain⟨h1,v,h2,v',h3,h4⟩:=hq;exact⟨h1,v,h2,v',h3,h _ _ h4⟩
 | panic ch=>obtain⟨h1,v,h3,_⟩:=hq;cases h3
 | outgrown=>obtain⟨v,h3,_⟩:=hq;cases h3
 | exit id=>exact hq.elim
 | goto l=>exact hq.elim
theorem fI.frame{w w':World}(h:fI w w')(may:MemPlace->Prop):w.keptBut w' may:=by
 refine⟨h.os,h.output,fun i hi=>?_⟩;have:w'.heap[i]? = w.heap[i]?:=h.block i hi;rw[this];split <;> simp_all
theorem fI.trod{H:Type}{enc:TypeId×Value->H}{P:Program}{t:TypeId}(hl:laidOutB P=true)(hr:P.readableRec t=true)(hrow:t<P.types.size){W W':World}{v:Value}{d:DataW H}{ps:List MemPlace}(h:DataW.Trod enc P W 0 (fun _=>true) true t v d ps)(hb:fI W W')(hlt:∀ x∈ps,x.block<W.heap.size):DataW.Trod enc P W' 0 (fun b=>decide (b<W.heap.size)) true t v d ps :=Below.trod (W:=Cc.tp W W'.tape W'.drawn) hl hr hrow (DataW.Trod.of_heap (w':=Cc.tp W W'.tape W'.drawn) (show W.heap=(Cc.tp W W'.tape W'.drawn).heap from rfl) h) hb hlt
end Cc
end
section
open Go.Conc
namespace Cc
section
variable {P:Program}{L:List FuncId}{w:World}{Φ:Goroutine->World->Prop}{b:Frame}{a:Act}{k:List Item}{cs:List Frame}{ops:Array Oper}{i:Nat}{rest:List Nat}{o:Oper}
theorem BW.ends{f:FuncId}{fn:Func}{tmps:Array Value}{todo:List Item}{v:Value}{Post:Value->World->Prop}(hf:P.funcs[f]? = some fn)(hi:P.inits.idxOf? f=none)(hres:∀ w,(results fn tmps).run P w=.ok v w)(hp:∀ d,Post v (w.at d)):BW P (G {(base f).at ⟨tmps,[]⟩ todo with mode:=.returning} []) w (Ends P Post) :=.done fun d=>⟨f,tmps,todo,fn,v,rfl,hf,hi,fun d'=>⟨hres _,hp d'⟩⟩
end
end Cc
end
section
open Go.Conc
open Cc (tp Low nI qR dZ uy fM oD)
namespace Sr
section
variable {P:Program}{S X X':Nat->Prop}{Stop:(Nat->Prop)->Goroutine->World->Prop}{b:Frame}{a:Act}{k:List Item}{cs:List Frame}{w:World}{ops:Array Oper}{i:Nat}{rest:List Nat}{o:Oper}{n:Nat}
theorem iw.idle(w:World):iw S X w w #[] X:=⟨aY _,rfl,rfl,rfl,fun _ _ _=>rfl,fun _ h=>h,fun _ h=>.inl h,by simp⟩
theorem wm{g:Goroutine}(h:∀ ω,Rel S X w ω->Stop X g ω):MG P S Stop n X g w:=by
 cases n with
 | zero=>exact h
 | succ n=>exact .inl h
theorem dh{g g':Goroutine}(hr:g.status=.running)(h:∀ w,stepG P true g w=.go g' w #[])(hn:MG P S Stop n X g' w):MG P S Stop (n+1) X g w :=.inr ⟨hr,fun ω θ=>⟨g',ω,#[],X,h ω,.idle ω,hn.rely θ⟩⟩
theorem oV(ho:ops[i]? = some o)(hw:Region.wanted o (yielded ops a.tmps)=true)(hk:b.kind≠.early)(v:Value)(h:∀ ω,(execOp a.eval o).run P ω=.ok (.value v) ω/\(execOp a.eval o).events P ω #[]=#[])(hn:MG P S Stop n X (G (b.at (a.put o.dst v) (.inRegion ops rest::k)) cs) w):MG P S Stop (n+1) X (G (b.at a (.inRegion ops (i::rest)::k)) cs) w :=dh rfl (fun ω=>by
  rw[stepG_value ho hw hk (h ω).1];unfold listed;rw[(h ω).2,seen_none]) hn
theorem CB{Rr:World->Act->World->Prop}(ho:ops[i]? = some o)(hw:Region.wanted o (yielded ops a.tmps)=true)(hk:b.kind≠.early)(hok:Cc.bT P [] o.op=true)(h:∀ ω,Rel S X w ω->wpList P ops (fun e a' w'=>e=.normal/\Rr ω a' w') [o] a ω)(hn:∀ ω a' w',Rel S X w ω->Rr ω a' w'->ω.heap.size<=w'.heap.size->(∀ e∈listed P b.fn a o ω,Low w'.heap.size e/\e∈(execOp a.eval o).events P ω #[])->∃ X',iw S X ω w' (listed P b.fn a o ω) X'/\MG P S Stop n X' (G (b.at a' (.inRegion ops rest::k)) cs) w'):MG P S Stop (n+1) X (G (b.at a (.inRegion ops (i::rest)::k)) cs) w:=by
 refine .inr ⟨rfl,fun ω θ=>?_⟩;obtain⟨m,r,es',hr⟩:=dZ (uy (P:=P) (L:=[]) (hE:=Cc.zF P) (ρ:=a.eval) (o:=o) (fun f=>rfl) hok) ω #[];have hlow:=qR hr.low;have hrun:(execOp a.eval o).run P ω=r:=by rw[<-Sem.runT_fst,hr.eq]
 have hev:(execOp a.eval o).events P ω #[]=es':=by unfold Sem.events;rw[hr.eq]
 have hlist:listed P b.fn a o ω=seen P b.fn es':=by unfold listed;rw[hev]
 have hwp:=h ω θ;unfold wpList at hwp;rw[if_pos hw] at hwp;rcases hwp with hwp|⟨_,x,y,hq⟩
 .unfold Oper.wp at hwp;rw[hrun] at hwp
  cases r with
  | ok nx w' =>
   have hg:=hr.good nx w' rfl
   cases nx with
   | value v =>
    obtain⟨X',h1,h2⟩:=hn ω _ w' θ hwp.2 hr.size fun e he=>⟨(by rw[hlist] at he;exact fM hlow e he),mem_listed he⟩
    exact⟨_,_,_,X',stepG_value ho hw hk hrun,h1,h2⟩
   | skip =>
    obtain⟨X',h1,h2⟩:=hn ω _ w' θ hwp.2 hr.size fun e he=>⟨(by rw[hlist] at he;exact fM hlow e he),mem_listed he⟩
    exact⟨_,_,_,X',stepG_none ho hw hk hrun,h1,h2⟩
   | enter f args=>simp[nI,oD] at hg
   | _=>exact hg.elim
  | halt x w' =>
   cases x with
   | panic v=>have:=hwp.1;cases this
   | _=>exact hwp.elim
 .have:=hq.1;cases this
theorem tN(ho:ops[i]? = some o)(hw:Region.wanted o (yielded ops a.tmps)=true)(hk:b.kind≠.early){x:Operand}(hop:o.op=.move x\/o.op=.assign x)(hn:MG P S Stop n X (G (b.at (a.put o.dst (a.eval x)) (.inRegion ops rest::k)) cs) w):MG P S Stop (n+1) X (G (b.at a (.inRegion ops (i::rest)::k)) cs) w :=oV ho hw hk _ (fun ω=>hop.elim (fun h=>Cc.Iq h ω) fun h=>Cc.ze h ω) hn
theorem pV{es:Array Event}{m:Nat}(hl:∀ e∈es,Low m e)(hx:∀ e∈es,(∃ ad,e.loc=.cell ad/\X ad.block)\/∃ mk,e=⟨.mark mk,false,true⟩):∀ e∈es,EvX X S m e:=by
 intro e he;rcases hx e he with⟨ad,h1,h2⟩|⟨mk,rfl⟩
 .rcases hl e he with⟨a,h3,h4,h5⟩|⟨r,h3,_⟩|h3
  .rw[h1] at h3;cases h3
   exact .inl (.inl ⟨ad,ad.block,h1,h2,h4,h5⟩)
  .rw[h1] at h3;cases h3
  .rw[h1] at h3;cases h3
 .rcases hl _ he with⟨a,h3,_⟩|⟨r,h3,_⟩|h3
  .cases h3
  .cases h3
  .have:mk=.noRoom:=by simpa using h3
   subst this;exact .inl (.inr (.inr ⟨_,rfl,rfl,rfl,rfl⟩))
theorem wo(ho:ops[i]? = some o)(hw:Region.wanted o (yielded ops a.tmps)=true)(hk:b.kind≠.early)(hgd:o.guard=none){t:TypeId}(hop:o.op=.alloc t){z:Array Value}(hz:(P.info? t).bind (·.zero)=some (.agg z))(hn:∀ ω,Rel S X w ω->MG P S Stop n (fun b=>X b\/b=ω.heap.size) (G (b.at (a.put o.dst (.pointer (some ⟨ω.heap.size,0,none⟩))) (.inRegion ops rest::k)) cs) (ω.alloc (.cells z t))):MG P S Stop (n+1) X (G (b.at a (.inRegion ops (i::rest)::k)) cs) w:=by
 refine CB (Rr:=fun ω a' w'=>a'=a.put o.dst (.pointer (some ⟨ω.heap.size,0,none⟩))/\w'=ω.alloc (.cells z t)) ho hw hk (by rw[hop];rfl) (fun ω θ=>?_) fun ω a' w' θ hr hsz hl=>?_
 .exact bV hgd t hop z hz ⟨rfl,rfl,rfl⟩
 .obtain⟨rfl,rfl⟩:=hr;refine⟨_,⟨hsz,rfl,rfl,rfl,fun b hb _=>?_,fun b h=>.inl h,fun b h=>h.imp id fun eb=>⟨Zj eb.symm,by rw[eb];show _<(ω.heap.push _).size;simp⟩,?_⟩,hn ω θ⟩
  .show(ω.heap.push _)[b]? = _;rw[Qi,if_neg (by omega)]
  .refine pV (fun e he=>(hl e he).1) fun e he=>?_
   have:=(hl e he).2;rw[Cc.YX hop hz] at this;simp at this
theorem wT(ho:ops[i]? = some o)(hw:Region.wanted o (yielded ops a.tmps)=true)(hk:b.kind≠.early)(hgd:o.guard=none){x y:Operand}{ty t:TypeId}(hop:o.op=.store ty x y)(g:Nat)(hx:a.eval x=.pointer (some ⟨g,0,none⟩))(vs:Array Value)(hy:a.eval y=.agg vs)(old:Array Value)(hh:w.heap[g]? = some (.cells old t (0,0)))(hsz:old.size=vs.size)(hi:(P.info? ty).map (·.size)=some vs.size)(h1:∀ u∈vs.toList,u.oneCell'=true)(hg:X g)(hn:∀ ω,Rel S X w ω->MG P S Stop n X (G (b.at (a.put o.dst undef) (.inRegion ops rest::k)) cs) (ω.setRow g vs)):MG P S Stop (n+1) X (G (b.at a (.inRegion ops (i::rest)::k)) cs) w:=by
 have hh':∀ ω,Rel S X w ω->ω.heap[g]? = some (.cells old t (0,0)):=fun ω θ=>(θ.own g hg).trans hh
 refine CB (Rr:=fun ω a' w'=>a'=a.put o.dst undef/\w'=ω.setRow g vs) ho hw hk (by rw[hop];rfl) (fun ω θ=>?_) fun ω a' w' θ hr hsz' hl=>?_
 .exact wpList_store_row hgd ty x y hop g hx vs hy old t (hh' ω θ) hsz hi h1 ⟨rfl,rfl,rfl⟩
 .obtain⟨rfl,rfl⟩:=hr;refine⟨X,⟨hsz',rfl,rfl,rfl,fun b hb hne=>setRow_other _ _ _ _ (fun e=>hne (e ▸ hg)),fun b h=>h,fun b h=>.inl h,?_⟩,hn ω θ⟩;refine pV (fun e he=>(hl e he).1) fun e he=>?_
  have hev:=(hl e he).2;rcases (hl e he).1 with⟨ad,h3,_⟩|⟨r,h3,_⟩|h3
  .exact .inl ⟨ad,h3,by rw[Cc.YV hop g hx vs hy old t ω (hh' ω θ) hsz hi h1 e hev ad h3];exact hg⟩
  all_goals
   obtain⟨i',hi',hs'⟩:=zA.1 hi;simp[execOp,hop,hx,hy,Instr.storeAt,Instr.sureAddr,storeVar,sizeOf,typeInfo,hi',hs',Value.cells] at hev;rcases events_storeCells_at (P:=P) g 0 t vs.toList 0 old ω #[] (hh' ω θ) (by simp;omega) h1 e hev with h|⟨Un,h2,h5⟩
   .simp at h
   .exact .inl ⟨Un,h2,by rw[h5];exact hg⟩
end
section
variable {P:Program}{S X X':Nat->Prop}{Stop:(Nat->Prop)->Goroutine->World->Prop}{b:Frame}{a:Act}{k:List Item}{cs:List Frame}{w:World}{ops:Array Oper}{i:Nat}{rest:List Nat}{o:Oper}{n:Nat}
theorem Zy{a:Act}{o:Oper}{t:TypeId}{x:Operand}(hop:o.op=.load t x){ad:Addr}(hx:a.eval x=.pointer (some ad))(w:World){cs:List Value}{fs:Array Field}(hu:P.underlying t=some (.struct fs))(hi:(P.info? t).map (·.size)=some cs.length)(hc:∀ j v,cs[j]? = some v->w.cell? (ad.add j)=some v):∀ ev∈(execOp a.eval o).events P w #[],∃ Un,ev.loc=.cell Un/\Un.block=ad.block:=by
 intro ev h;simp only[Act.eval,Az] at hx;unfold execOp at h;simp only[hop] at h
 cases hinfo:P.info? t with
 | none=>rw[hinfo] at hi;cases hi
 | some i =>
  rw[hinfo] at hi;simp only[MK,Ba] at hi;simp[go_sem,hx,Instr.loadAt,Instr.sureAddr,isAgg,run_underlying hu,sizeOf,typeInfo,hinfo] at h;obtain⟨Un,h1,_,h2⟩:=(events_loadCellsFrom_at ad (fun b=>b=ad.block) rfl _ 0 _ w #[] (fun j hj=>by
   have hj:j<cs.length:=by omega
   simp only[lU];rw[hc j _ (kM hj)];rfl) ev h).resolve_left (by simp)
  exact⟨Un,h1,h2⟩
theorem Bp(ho:ops[i]? = some o)(hw:Region.wanted o (yielded ops a.tmps)=true)(hk:b.kind≠.early){x:Operand}{t t':TypeId}(hop:o.op=.load t x)(g:Nat)(hx:a.eval x=.pointer (some ⟨g,0,none⟩))(vs:Array Value)(hh:w.heap[g]? = some (.cells vs t' (0,0))){fs:Array Field}(hu:P.underlying t=some (.struct fs))(hi:(P.info? t).map (·.size)=some vs.size)(hg:X g)(hn:MG P S Stop n X (G (b.at (a.put o.dst (.agg vs)) (.inRegion ops rest::k)) cs) w):MG P S Stop (n+1) X (G (b.at a (.inRegion ops (i::rest)::k)) cs) w:=by
 have hcell:∀ ω,Rel S X w ω->∀ j v,vs.toList[j]? = some v->ω.cell? ((⟨g,0,none⟩:Addr).add j)=some v:=fun ω θ j v hj=>by
  rw[Addr.add_lit,lU,cell_of_row _ _ _ _ _ _ ((θ.own g hg).trans hh)];simpa using hj
 refine CB (Rr:=fun ω a' w'=>a'=a.put o.dst (.agg vs)/\w'=ω) ho hw hk (by rw[hop];rfl) (fun ω θ=>?_) fun ω a' w' θ hr hsz hl=>?_
 .have hr:(execOp a.eval o).run P ω=.ok (.value (.agg vs)) ω:=by
   have:=rX (P:=P) (w:=ω) t ⟨g,0,none⟩ vs.toList _ hu rfl (by simpa using hi) (hcell ω θ);rw[qbW] at this;simp[execOp,hop,hx,Instr.loadAt,Instr.sureAddr,this,Result.andThen]
  unfold wpList;rw[if_pos hw];refine .inl ?_;unfold Oper.wp;rw[hr];exact⟨rfl,rfl,rfl⟩
 .obtain⟨rfl,rfl⟩:=hr;refine⟨X,⟨hsz,rfl,rfl,rfl,fun _ _ _=>rfl,fun _ h=>h,fun _ h=>.inl h,pV (fun e he=>(hl e he).1) fun e he=>?_⟩,hn.rely θ⟩;obtain⟨Un,h2,h3⟩:=Zy hop hx w' (cs:=vs.toList) hu (by simpa using hi) (hcell w' θ) e (hl e he).2;exact .inl ⟨Un,h2,by rw[h3];exact hg⟩
theorem tZ(ho:ops[i]? = some o)(hw:Region.wanted o (yielded ops a.tmps)=true)(hk:b.kind≠.early)(hgd:o.guard=none){x:Operand}{t e:TypeId}{z:Array Value}(hop:o.op=.buildSlice t 1 #[(0,x)])(ht:P.underlying t=some (.slice e))(vs:Array Value)(hi:(P.info? e).map (fun i=>(i.zero,i.size))=some (some (.agg z),vs.size))(hzs:z.size=vs.size)(hpos:0<vs.size)(hlim:vs.size<=16777216)(hx:a.eval x=.agg vs)(hn:∀ ω,Rel S X w ω->MG P S Stop n (fun b=>X b\/b=ω.heap.size) (G (b.at (a.put o.dst (.slice (some ⟨ω.heap.size,0,none⟩) 1 1)) (.inRegion ops rest::k)) cs) (ω.alloc (.cells vs e))):MG P S Stop (n+1) X (G (b.at a (.inRegion ops (i::rest)::k)) cs) w:=by
 refine CB (Rr:=fun ω a' w'=>a'=a.put o.dst (.slice (some ⟨ω.heap.size,0,none⟩) 1 1)/\w'=ω.alloc (.cells vs e)) ho hw hk (by rw[hop];rfl) (fun ω θ=>?_) fun ω a' w' θ hr hsz hl=>?_
 .exact zo hgd t x hop ht vs hi hzs hpos hlim hx ⟨rfl,rfl,rfl⟩
 .obtain⟨rfl,rfl⟩:=hr;refine⟨_,⟨hsz,rfl,rfl,rfl,fun b hb _=>?_,fun b h=>.inl h,fun b h=>h.imp id fun eb=>⟨Zj eb.symm,by rw[eb];show _<(ω.heap.push _).size;simp⟩,?_⟩,hn ω θ⟩
  .show(ω.heap.push _)[b]? = _;rw[Qi,if_neg (by omega)]
  .refine pV (fun e he=>(hl e he).1) fun e he=>?_
   have:=(hl e he).2;rw[Cc.ad7 hop ht vs hi hpos hlim hx] at this;simp at this
theorem Xg{w:World}(ty:TypeId)(t:TypeId)(base:Nat)(e:TypeId)(z:Value)(sz bytes:Nat)(ht:P.underlying t=some (.slice e))(hi:(P.info? e).map (fun i=>(i.zero,i.size,i.bytes))=some (some z,sz,bytes))(hzs:z.cells.size=sz)(hsz:0<sz)(hb0:0<bytes){a1:Option Addr}{n c1:Nat}{xs:List Value}(hown:w.ownsRow base e sz (.slice a1 n c1) n xs){ad:Addr}{m c2:Nat}{news:List Value}(hl:news.length=m*sz)(hnews:∀ j u,news[j]? = some u->w.cell? (ad.add j)=some u)(h1:∀ u∈news,u.oneCell'=true)(hbytes:(n+m)*bytes<=140737488355328)(hbase:base<=w.heap.size):∃ a' c' w',(Builtin.append_ #[t,t] ty #[.slice a1 n c1,.slice (some ad) m c2]).run P w=.ok (.slice a' (n+m) c') w'/\w'.ownsRow base e sz (.slice a' (n+m) c') (n+m) (xs++news)/\w.grownBy w' (Value.slice a1 n c1).ownBlock /\
   ∀ g,(Value.slice a' (n+m) c').ownBlock=some g->(Value.slice a1 n c1).ownBlock=some g\/w.heap.size<=g:=by
 obtain⟨i,hi',hz0,hz1,hz2⟩:=info_parts hi;have hle:n+m<=(n+m)*bytes:=qca _ hb0;obtain⟨v',w',h,h2,h3⟩:=run_append_own (P:=P) w base t ty e i z sz bytes ht hi' hz0 hz1 hz2 hzs hsz _ n xs hown ad m c2 news hl hnews h1 (by unfold maxLen;omega) hbytes hbase;obtain⟨a',c',rfl⟩:=yT h2;refine⟨a',c',w',h,h2,h3.1,fun g hg=>?_⟩;have hown2:=hown.2;rcases hown2 with⟨he,hn0⟩|⟨g0,cap,cur,he,hbg,hgc,hnc,hcm,hcs,htake⟩
 .cases he
  have hx:xs=[]:=O8 (by simpa using hown.1);subst hx;obtain⟨v2,w2,k,k2,_⟩:=run_append_own (P:=P) w w.heap.size t ty e i z sz bytes ht hi' hz0 hz1 hz2 hzs hsz _ 0 [] (World.ownsRow_nil w w.heap.size e sz) ad m c2 news hl hnews h1 (by unfold maxLen;omega) hbytes (aY _);rw[h] at k
  cases k
  exact .inr ((k2.lt g hg).1)
 .cases he
  subst hz1 hz2;by_cases hroom:n+m<=c1
  .have hfit:n*i.size+news.length<=cur.size:=by rw[hl,hcs,<-qcu];exact qbX _ hroom
   have k:=run_append_room (P:=P) w t ty e i ht hi' g0 n c1 cur hgc ad m c2 news hl hnews h1 hroom hfit;rw[h] at k
   cases k
   exact .inl hg
  .have holds:∀ j u,xs[j]? = some u->w.cell? ((⟨g0,0,none⟩:Addr).add j)=some u:=hown.cells (g:=g0) rfl
   have k:=run_append_grow (P:=P) w t ty e i z ht hi' hz0 ⟨g0,0,none⟩ n c1 xs hown.1 holds ad m c2 news hl hnews (by omega) (by omega) (growslice_fits (by omega) hbytes);rw[h] at k
   cases k
   simp only[Value.ownBlock,Ba] at hg;exact .inr (by omega)
theorem QI{n0:Nat}{e:TypeId}{sz m:Nat}{v:Value}{xs:List Value}(h:w.ownsRow n0 e sz v m xs)(hX:∀ b,v.ownBlock=some b->X b){ω:World}(θ:Rel S X w ω):ω.ownsRow n0 e sz v m xs:=by
 obtain⟨h1,h2⟩:=h;refine⟨h1,?_⟩;rcases h2 with h2|⟨g,cap,cur,hv,hg,hh,r⟩
 .exact Or.inl h2
 .exact Or.inr ⟨g,cap,cur,hv,hg,(θ.own g (hX g (by rw[hv];rfl))).trans hh,r⟩
theorem IL{n0:Nat}(ho:ops[i]? = some o)(hw:Region.wanted o (yielded ops a.tmps)=true)(hk:b.kind≠.early)(hgd:o.guard=none){s x:Operand}{t:TypeId}(hop:o.op=.call {callee:=.builtin .append,args:=#[s,x],argTypes:=#[t,t]})(e:TypeId)(z:Value)(sz bytes:Nat)(ht:P.underlying t=some (.slice e))(hi:(P.info? e).map (fun i=>(i.zero,i.size,i.bytes))=some (some z,sz,bytes))(hzs:z.cells.size=sz)(hsz:0<sz)(hb0:0<bytes){a1:Option Addr}{m c1:Nat}{xs:List Value}(hs:a.eval s=.slice a1 m c1)(hown:w.ownsRow n0 e sz (.slice a1 m c1) m xs)(hX:∀ b,(Value.slice a1 m c1).ownBlock=some b->X b){A:Addr}{m2 c2:Nat}{news:List Value}(hx:a.eval x=.slice (some A) m2 c2)(hA:X A.block)(hsrc:wh w sz (some A) m2 c2 news)(h1:∀ u∈news,u.oneCell'=true)(hbytes:(m+m2)*bytes<=140737488355328)(Ud:n0<=w.heap.size)(hn:∀ ω a' c' w' X',Rel S X w ω->w'.ownsRow n0 e sz (.slice a' (m+m2) c') (m+m2) (xs++news)->(∀ b,(Value.slice a' (m+m2) c').ownBlock=some b->X' b)->(∀ b,X b->X' b)->ω.heap.size<=w'.heap.size->MG P S Stop n X' (G (b.at (a.put o.dst (.slice a' (m+m2) c')) (.inRegion ops rest::k)) cs) w'):MG P S Stop (n+1) X (G (b.at a (.inRegion ops (i::rest)::k)) cs) w:=by
 have hown':∀ ω,Rel S X w ω->ω.ownsRow n0 e sz (.slice a1 m c1) m xs:=fun ω θ=>QI hown hX θ
 have hcell:∀ ω,Rel S X w ω->∀ j u,news[j]? = some u->ω.cell? (A.add j)=some u:=fun ω θ j u hj=>by
  obtain⟨y,hy,hv⟩:=hsrc.2.2.2.1 j u hj
  cases hy
  rw[World.cell?_of_block (w:=w) (θ.own _ (by rw[addBlock];exact hA))];exact hv
 have hsrc':∀ ω,Rel S X w ω->wh ω sz (some A) m2 c2 news:=fun ω θ=>⟨hsrc.1,hsrc.2.1,hsrc.2.2.1,fun j u hj=>⟨A,rfl,hcell ω θ j u hj⟩,hsrc.2.2.2.2⟩
 have hok:Cc.bT P [] o.op=true:=by rw[hop];rfl
 refine CB (Rr:=fun ω a' w'=>∃ x' c',a'=a.put o.dst (.slice x' (m+m2) c')/\w'.ownsRow n0 e sz (.slice x' (m+m2) c') (m+m2) (xs++news)/\ω.grownBy w' (Value.slice a1 m c1).ownBlock/\∀ g,(Value.slice x' (m+m2) c').ownBlock=some g->(Value.slice a1 m c1).ownBlock=some g\/ω.heap.size<=g) ho hw hk hok (fun ω θ=>?_) fun ω a' w' θ hr hsz' hl=>?_
 .obtain⟨a',c',w',k1,k2,k3,k4⟩:=Xg o.type t n0 e z sz bytes ht hi hzs hsz hb0 (hown' ω θ) hsrc.1 (hcell ω θ) h1 (c2:=c2) hbytes (tT Ud θ.size);unfold wpList;rw[if_pos hw];refine .inl ?_;unfold Oper.wp;simp[execOp,hop,resolve,invoke,builtin,hs,hx,k1,Result.andThen];exact⟨rfl,a',c',rfl,k2,k3,k4⟩
 .obtain⟨x',c',rfl,g1,g2,g3⟩:=hr;refine⟨fun b=>X b\/(ω.heap.size<=b/\b<w'.heap.size),⟨hsz',g2.os,g2.output,g2.tape,fun b hb hne=>?_,fun b h=>.inl h,fun b h=>h,?_⟩,hn ω x' c' w' _ θ g1 (fun g hg=>?_) (fun b h=>.inl h) hsz'⟩
  .exact g2.block b hb fun e=>hne (hX b e.symm)
  .refine pV (fun e he=>(hl e he).1) fun ev hev=>?_
   have hle:m+m2<=(m+m2)*bytes:=qca _ hb0;obtain⟨i',hi',hz0,hz1,hz2⟩:=info_parts hi;have afS:=(hl ev hev).2;simp[execOp,hop,resolve,invoke,builtin,hs,hx] at afS;rcases events_append_where (P:=P) ω n0 t o.type e i' z sz bytes ht hi' hz0 hz1 hz2 _ m xs (hown' ω θ) A m2 c2 news hsrc.1 (hcell ω θ) h1 (by unfold maxLen;omega) hbytes ev afS with⟨Un,h2,h3|h3⟩|⟨mk,h2,_⟩
   .exact .inl ⟨Un,h2,.inl (by rw[h3.2];exact hA)⟩
   .exact .inl ⟨Un,h2,.inl (hX _ h3.symm)⟩
   .exact .inr ⟨mk,h2⟩
  .have hlt:=(g1.lt g hg).2;rcases g3 g hg with h|h
   .exact .inl (hX g h)
   .exact .inr ⟨h,hlt⟩
end
end Sr
end
section
open Go.Conc
namespace Sr
def LI:List FuncId:=[40,38,52,54,69,72,73,86,87,91,109,110,112,113,114,115,116,117,127,128,129,131,142,143,144,145,146,147,148,149,150,151,152,162,163,164,165,166,171,173,178,179,180,181,182,183,184,185,186,187,188,189,190,191,192,193,194,195,196,197,198,200,201,202,203,206,209,210,211,212,213,214,216,217,218,219,220,221,222,223,224,225,226,228,229,231,232,233,234,235,238,239,240,241,242,243,244,245,246,247,248,249,250,252,253,254,255,256,258,259]
def LB:List FuncId:=[161,215,227,257]
def LM:List FuncId:=[2*311+1000000000]
def LW:List FuncId:=LI++(LB++LM)
theorem af0:abj qp0 LW (tk qp0 LW.contains)=true:=by kernel_rfl
theorem abV:fnB qp0 LI=true:=by kernel_rfl
def LU:List FuncId:=[74,75,76,111]
def LO:List FuncId:=LU++LW
theorem af4:abj qp0 LO (fun _=>true)=true:=by kernel_rfl
theorem aeL:fnB qp0 LU=true:=by kernel_rfl
theorem few:qp0.funcs.size<=1000000000:=Nat.le_of_ble_eq_true (by kernel_rfl)
theorem BA{f:FuncId}{fn:Func}(hfn:qp0.funcs[f]? = some fn):∀ t:Nat,f=2*t+1000000000->∃ e,qp0.underlying t=some (.pointer e):=fun t e=>by
 have h1:f<qp0.funcs.size:=(fT.1 hfn).1;have:=few;subst e;have h1:2*t+1000000000<qp0.funcs.size:=h1;omega
theorem XV(b:Nat):fK qp0 (2*b+1000000001):=⟨.inl (MW (tT few (by show 1000000000<=2*b+1000000001;omega))),fun t e=>by
 have e:2*b+1000000001=2*t+1000000000:=e;omega⟩
theorem abU:∀ f∈LB++LM,fK qp0 f:=by
 intro f hf;simp only[LB,LM,NJ,yG,rD,xS,or_false] at hf;rcases hf with rfl|rfl|rfl|rfl|rfl
 .exact⟨.inr ⟨_,func161,by decide,.inr ⟨rfl,rfl,.inl rfl⟩⟩,BA func161⟩
 .exact⟨.inr ⟨_,func215,by decide,.inr ⟨rfl,rfl,.inl rfl⟩⟩,BA func215⟩
 .exact⟨.inr ⟨_,func227,by decide,.inr ⟨rfl,rfl,.inr rfl⟩⟩,BA func227⟩
 .exact⟨.inr ⟨_,func257,by decide,.inr ⟨rfl,rfl,.inr rfl⟩⟩,BA func257⟩
 .refine⟨.inl (MW (tT few (by decide))),fun t e=>?_⟩;have:t=311:=by
   have e:2*311+1000000000=2*t+1000000000:=e;omega
  subst this;exact⟨_,underlying311⟩
def dW(e:Nat×Nat)(f:FuncId):Bool:=LW.contains f||(f==2*e.1+1000000001)||(f==2*e.2+1000000001)
def iM(e:Nat×Nat)(f:FuncId):Bool:=LO.contains f||(f==2*e.1+1000000001)||(f==2*e.2+1000000001)
section
variable (e:Nat×Nat)
theorem Nk{f:FuncId}(h:LW.contains f=true):dW e f=true:=by unfold dW;rw[h];rfl
theorem adM{f:FuncId}(h:LO.contains f=true):iM e f=true:=by unfold iM;rw[h];rfl
theorem Ws(t:Nat)(h:dW e (2*t+1000000000)=true):LW.contains (2*t+1000000000)=true:=by
 unfold dW at h;simp only[Yb,beq_iff_eq] at h;rcases h with(h|h)|h
 .exact h
 .have h:2*t+1000000000=2*e.1+1000000001:=h;omega
 .have h:2*t+1000000000=2*e.2+1000000001:=h;omega
theorem Vy(t:Nat)(h:iM e (2*t+1000000000)=true):dW e (2*t+1000000000)=true:=by
 unfold iM at h;simp only[Yb,beq_iff_eq] at h;rcases h with(h|h)|h
 .refine Nk e ?_;have h:(2*t+1000000000)∈LO:=by simpa using h
  rcases UY.1 h with h|h
  .exfalso;simp only[LU,rD,xS,or_false] at h;rcases h with h|h|h|h <;> (have h:2*t+1000000000=_:=h;omega)
  .simpa using h
 .have h:2*t+1000000000=2*e.1+1000000001:=h;omega
 .have h:2*t+1000000000=2*e.2+1000000001:=h;omega
theorem Rc:∀ f,dW e f=true->iM e f=true:=by
 intro f h;unfold dW at h;unfold iM;simp only[Yb] at h ⊢;rcases h with(h|h)|h
 .refine .inl (.inl ?_);have h:f∈LW:=by simpa using h
  have:f∈LO:=List.mem_append_right _ h;simpa using this
 .exact .inl (.inr h)
 .exact .inr h
theorem Bb{f:FuncId}{l:List FuncId}(h:(l.contains f||(f==2*e.1+1000000001)||(f==2*e.2+1000000001))=true):l.contains f=true\/∃ b,f=2*b+1000000001:=by
 simp only[Yb,beq_iff_eq] at h;rcases h with(h|h)|h
 .exact .inl h
 .exact .inr ⟨_,h⟩
 .exact .inr ⟨_,h⟩
theorem VU{b:Nat}{fn:Func}(h:qp0.funcs[2*b+1000000001]? = some fn):False:=by
 have h1:2*b+1000000001<qp0.funcs.size:=(fT.1 h).1;have:=few;omega
theorem aew{t:Nat}(h:LW.contains (2*t+1000000000)=false):iM e (2*t+1000000000)=false:=by
 cases hx:iM e (2*t+1000000000) with
 | false=>rfl
 | true=>have:=Ws e t (Vy e t hx);rw[h] at this;cases this
noncomputable def kW:Op->Bool:=tk qp0 LW.contains
theorem ae3:Tk qp0 (dW e) kW:=afG _ LW.contains (dW e) fun o h=>Gz (L:=LW.contains) (L':=dW e) (fun f hf=>Nk (f:=f) e hf) (Ws e) h
theorem aeo:vB qp0 (dW e) kW:=by
 intro f hf fn c hfn hb;rcases Bb e hf with h|⟨b,rfl⟩
 .exact jQ (L:=LW.contains) (L':=dW e) (fun f hf=>Nk (f:=f) e hf) (VB af0 f h fn c hfn hb)
 .exact(VU hfn).elim
theorem adH:∀ f,dW e f=true->fK qp0 f:=by
 intro f hf;rcases Bb e hf with h|⟨b,rfl⟩
 .exact Jw few abV abU f h
 .exact XV b
theorem ae2:vB qp0 (iM e) (fun _=>true):=by
 intro f hf fn c hfn hb;rcases Bb e hf with h|⟨b,rfl⟩
 .exact jQ (L:=LO.contains) (L':=iM e) (fun f hf=>adM (f:=f) e hf) (VB af4 f h fn c hfn hb)
 .exact(VU hfn).elim
theorem ac4:∀ f,iM e f=true->fK qp0 f:=by
 intro f hf;rcases Bb e hf with h|⟨b,rfl⟩
 .refine Jw few aeL (fun f hf=>?_) f h;exact Jw few abV abU f (by simpa[LW] using hf)
 .exact XV b
end
end Sr
end
def eX(c:UInt8):Bool:=decide (48<=c.toNat/\c.toNat<=55)
theorem kN(c:UInt8):eX c=true↔48<=c.toNat/\c.toNat<=55:=by simp[eX]
def bK(v:Nat)(l:List UInt8):Nat:=l.foldl (fun v c=>v*8+(c.toNat - 48)) v
theorem lW(v:Nat)(c:UInt8)(l:List UInt8):bK v (c::l)=bK (v*8+(c.toNat - 48)) l:=by simp only[bK,Xu]
theorem kQ(v:Nat):bK v []=v:=by simp only[bK,List.foldl_nil]
theorem BS(v:Nat)(a b:List UInt8):bK v (a++b)=bK (bK v a) b:=by simp[bK,qbd]
theorem Pb(v:Nat)(a:List UInt8)(c:UInt8):bK v (a++[c])=bK v a*8+(c.toNat - 48):=by rw[BS,lW,kQ]
theorem qp:∀ (l:List UInt8)(v:Nat),bK v l=v*8^l.length+bK 0 l
 | [],v=>by rw[kQ,kQ];simp
 | c::l,v=>by
  rw[lW,lW,qp l (v*8+(c.toNat - 48)),qp l (0*8+(c.toNat - 48)),oH,qbN];have e:(v*8+(c.toNat - 48))*8^l.length=v*(8^l.length*8)+(c.toNat - 48)*8^l.length:=by
   rw[qcu,Nat.mul_assoc,Nat.mul_comm 8 (8^l.length)]
  rw[e];simp only[Nat.zero_mul,lU];omega
theorem SF(l:List UInt8)(v:Nat):v<=bK v l:=by
 rw[qp];have h1:1<=8^l.length:=Nat.one_le_pow _ _ (by decide);have h2:=Nat.mul_le_mul_left v h1;omega
theorem Cw(l:List UInt8)(k:Nat):bK 0 (l.take k)<=bK 0 l:=by
 have h:=BS 0 (l.take k) (l.drop k);rw[qbh] at h;rw[h];exact SF _ _
theorem wM:∀ (l:List UInt8),bK 0 (l.dropWhile (·==48))=bK 0 l
 | []=>rfl
 | c::l=>by
  by_cases h:c=48
  .subst h;rw[qaY (by rfl),wM l,lW];rfl
  .rw[qaT (by simpa using h)]
theorem KR(l:List UInt8)(k:Nat)(h:k<l.length):bK 0 (l.take (k+1))=bK 0 (l.take k)*8+((l.getD k 0).toNat - 48):=by
 have hg:l.getD k 0=l[k]:=by simp[List.getD,kM h]
 rw[Nh h,Pb,hg]
theorem X6(l:List UInt8)(k:Nat)(h:k<l.length)(ha:l.all eX=true):48<=(l.getD k 0).toNat/\(l.getD k 0).toNat<=55:=by
 have hg:l.getD k 0=l[k]:=by simp[List.getD,kM h]
 rw[hg,<-kN];exact(Ej.1 ha) l[k] (VE h)
def dx(v:Int)(l:List UInt8):Int:=l.foldl (fun v b=>v*256+(b.toNat:Int)) v
theorem jf(v:Int):dx v []=v:=by simp only[dx,List.foldl_nil]
theorem jF(v:Int)(c:UInt8)(l:List UInt8):dx v (c::l)=dx (v*256+(c.toNat:Int)) l:=by simp only[dx,Xu]
theorem BZ(v:Int)(a b:List UInt8):dx v (a++b)=dx (dx v a) b:=by simp[dx,qbd]
theorem zX(v:Int)(l:List UInt8)(k:Nat)(h:k<l.length):dx v (l.take (k+1))=dx v (l.take k)*256+((l.getD k 0).toNat:Int):=by
 have hg:l.getD k 0=l[k]:=by simp[List.getD,kM h]
 rw[Nh h,BZ,jF,jf,hg]
theorem qA:∀ (l:List UInt8)(v:Int),dx v l=v*256^l.length+dx 0 l
 | [],v=>by rw[jf,jf];simp
 | c::l,v=>by
  rw[jF,jF,qA l (v*256+(c.toNat:Int)),qA l (0*256+(c.toNat:Int)),oH,Int.pow_succ];have e:(v*256+(c.toNat:Int))*256^l.length=v*(256^l.length*256)+(c.toNat:Int)*256^l.length:=by
   rw[Int.add_mul,Int.mul_assoc,Int.mul_comm 256 (256^l.length)]
  rw[e];simp only[Int.zero_mul,Int.zero_add];omega
theorem Hg:∀ (l:List UInt8)(v K:Int),0<=K->K<=v->K<=dx v l
 | [],v,K,_,h=>by rw[jf];exact h
 | c::l,v,K,h0,h=>by
  rw[jF];have hc:=sD c;exact Hg l _ K h0 (by omega)
theorem Ho:∀ (l:List UInt8)(v K:Int),K<=-1->v<=K->dx v l<=K
 | [],v,K,_,h=>by rw[jf];exact h
 | c::l,v,K,h0,h=>by
  rw[jF];have hc:=sD c;exact Ho l _ K h0 (by omega)
def iF(v:Int):Bool:=decide (-9223372036854775808<=v/\v<=9223372036854775807)
theorem gM(v:Int):iF v=true↔-9223372036854775808<=v/\v<=9223372036854775807:=by simp[iF]
theorem Wi(v:Int):iF v=false↔v < -9223372036854775808\/9223372036854775807<v:=by
 rw[<-qcg,gM];omega
theorem Qd(v:Int)(l:List UInt8)(k:Nat)(h:k<l.length)(ho:dx v (l.take k) < -36028797018963968\/36028797018963967<dx v (l.take k)):iF (dx v l)=false:=by
 have e:dx v l=dx (dx v (l.take (k+1))) (l.drop (k+1)):=by rw[<-BZ,qbh]
 have hc:=sD (l.getD k 0);rw[e,zX v l k h,Wi];generalize dx v (l.take k)=p at *
 rcases ho with ho|ho
 .left
  have:=Ho (l.drop (k+1)) (p*256+((l.getD k 0).toNat:Int)) (-9223372036854775809) (by omega) (by omega);omega
 .right
  have:=Hg (l.drop (k+1)) (p*256+((l.getD k 0).toNat:Int)) 9223372036854775808 (by omega) (by omega);omega
def iK(c:UInt8):Int:=if 192<=c.toNat then(c.toNat:Int) - 256 else(c.toNat:Int) - 128
def Plain.mW:List UInt8->Int×Int
 | []=>(0,10)
 | c::r=>if c.toNat<128 then(0,10) else if iF (dx (iK c) r)=true then(dx (iK c) r,0) else(0,11)
theorem Plain.Mw(l:List UInt8)(h:l=[]\/(l.getD 0 0).toNat<128):Plain.mW l=(0,10):=by
 cases l with
 | nil=>rfl
 | cons c r =>
  rcases h with h|h
  .cases h
  .exact if_pos h
theorem Plain.OU(l:List UInt8)(h:0<l.length)(h1:¬ (l.getD 0 0).toNat<128):Plain.mW l=if iF (dx (iK (l.getD 0 0)) (l.drop 1))=true then(dx (iK (l.getD 0 0)) (l.drop 1),0) else(0,11):=by
 cases l with
 | nil=>simp at h
 | cons c r=>exact if_neg h1
end Go.Proofs.YtdbgldieilgnmaaGreatDoor
