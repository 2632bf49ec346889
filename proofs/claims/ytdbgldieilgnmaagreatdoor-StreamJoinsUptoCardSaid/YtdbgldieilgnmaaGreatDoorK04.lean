/- K04 -/
import Derived.Test.YtdbgldieilgnmaaGreatDoorK03
import Derived.Deep.RegionHeld3
set_option linter.all false
set_option maxHeartbeats 8000000
set_option maxRecDepth 100000
namespace Go.Proofs.YtdbgldieilgnmaaGreatDoor
open Tryz
open Go.Proofs.Tryz renaming prog → qp0
open ChangeShapes WideShapes ChangeAt RowKit
section
open Go.Conc
open Cc (tp)
namespace Sr
section
variable {P:Program}{L L':FuncId->Bool}{K:Op->Bool}{S:Nat->Prop}{Φ:Frame->List Frame->World->Prop}{b:Frame}{a:Act}{k:List Item}{cs:List Frame}{w w':World}{ops:Array Oper}{i:Nat}{rest:List Nat}{o:Oper}
theorem GW.pc(hLL:∀ f,L f=true->L' f=true)(hLt:∀ t:Nat,L' (2*t+1000000000)=true->L (2*t+1000000000)=true)(hK:vB P L K)(hL:∀ f,L f=true->fK P f)(hT:Tk P L K){D:Nat->Prop}{l:List Code}{r:Code ⊕ Nat}{Q:Exit->Act->World->Prop}(hrl:okE r l)(ds:List Deferred)(m:List (Nat×Value))(hb:b.kind=.normal\/b.kind=.deferred)(ha:a.defers=[])(hc:kg P L K [] (dR l (.refuse ""))=true)(hm:kg P L K m (dR l (.refuse ""))=true)(hB:cs≠[])(hs:bU P L S D a.tmps w)(hC:∀ τ d,gB P Q l a (tp w τ d))(hE:∀ e a w,Q e a w->uE P e)(hQ:∀ e a w τ d,Q e a w->Q e a (tp w τ d))(hn:∀ e a' fr w' D',Q e a' w'->bU P L S D' a'.tmps w'->(∀ a,D a->D' a)->oN b r k e ⟨over m a'.tmps,ds⟩ fr->GW P L' S Φ fr cs w'):GW P L' S Φ (b.at ⟨over m a.tmps,ds⟩ (fQ r l::k)) cs w:=by
 have hit:Items P L K [] [.code (dR l (.refuse ""))]:=by intro x hx;simp at hx;subst hx;exact hc
 have htr:=BP (b:={b with kind:=.normal}) hK hL hT (hs.self rfl ha hit) hC hE hQ;have hT':OkT (((ds,some (r,k)),fun _=>b.kind,m):xH):=hb;have key:=GT.above (T:=((ds,some (r,k)),fun _=>b.kind,m)) (B:=cs) (Ψ:=fun fr cs' w'=>cs'=cs/\∃ e a' D',Q e a' w'/\bU P L S D' a'.tmps w'/\(∀ a,D a->D' a)/\oN b r k e ⟨over m a'.tmps,ds⟩ fr) htr hT' (by
  refine⟨?_,[],l,hrl,rfl⟩;intro x hx;have:x=.code (dR l (.refuse "")):=by simpa[Frame.at] using hx
  subst this;exact hm) hB fun fr cs' w' hi hst=>?_
 .have e:uz (((ds,some (r,k)),fun _=>b.kind,m):xH) (({b with kind:=.normal}:Frame).at a [.code (dR l (.refuse ""))]) []=b.at ⟨over m a.tmps,ds⟩ (fQ r l::k):=by
   show iR _ _=_;have:=lQ (r,k) [] l;simp only[yG] at this;unfold iR Frame.at
   simp only[this,ha,yG]
  rw[e] at key;refine(GW.mono hLL hLt key).bind fun fr cs' w' h=>?_
  obtain⟨rfl,e,a',D',h1,h2,h3,h4⟩:=h w'.tape w'.drawn;exact hn e a' fr w' D' h1 h2 h3 h4
 .refine .stop fun τ d=>?_
  obtain⟨⟨rfl,e,a',hq,hat⟩,D',hs',hsup⟩:=hst τ d;obtain⟨hst',hd⟩:=sZ hs';refine⟨rfl,e,a',D',hq,?_⟩;have sQ:bU P L S D' fr.tmps (tp w' τ d):=hst';show _/\_/\oN b r k e ⟨over m a'.tmps,ds⟩ (iR _ fr)
  cases e with
  | normal =>
   cases hat
   refine⟨sQ,hsup,?_⟩;have:o8 (some (r,k)) [fQ (.inl (.refuse "")) []]=fQ r []::k:=lQ (r,k) [] [];have hd:a'.defers=[]:=hd;unfold oN iR Frame.at
   simp only[this,hd,yG]
  | ret =>
   obtain⟨todo,rfl⟩:=hat;refine⟨sQ,hsup,o8 (some (r,k)) todo,?_⟩;have hd:a'.defers=[]:=hd;unfold iR Frame.at
   simp only[hd,yG]
  | panic ch =>
   obtain⟨todo,rfl⟩:=hat;refine⟨sQ,hsup,o8 (some (r,k)) todo,?_⟩;have hd:a'.defers=[]:=hd;unfold iR Frame.at
   simp only[hd,yG]
  | _=>exact hat.elim
theorem R8{D:Nat->Prop}{c:Code}{Q:Exit->Act->World->Prop}(hK:vB P L K)(hL:∀ f,L f=true->fK P f)(hT:Tk P L K)(hs:Self P L K true S D (b.at a [.code c,.code (.refuse "")]) [] w)(hC:∀ τ d,gB P Q [c] a (tp w τ d))(hE:∀ e a w,Q e a w->uE P e)(hQ:∀ e a w τ d,Q e a w->Q e a (tp w τ d)):GT P L K S (fun fr cs w'=>(cs=[]/\∃ e a',Q e a' w'/\oN b (.inl (.refuse "")) [] e a' fr)/\∃ D',Self P L K true S D' fr cs w'/\∀ a,D a->D' a) (b.at a [.code c,.code (.refuse "")]) [] w:=by
 refine Bo hK hL hT hs (fun τ d=>?_) fun fr cs w τ d ⟨h1,e,a',h2,h3⟩=>⟨h1,e,a',hQ e a' w τ d h2,h3⟩
 have harr:∃ e a' fr w',Q e a' w'/\oN b (.inl (.refuse "")) [] e a' fr/\Steps P (lone (b.at a [.code c,.code (.refuse "")]) [Cc.c0] (tp w τ d)) (lone fr [Cc.c0] w'):=by
  obtain⟨e,Δ,ω,hq,harr⟩:=(hC τ d) b [.code (.refuse "")] [Cc.c0]
  cases e with
  | normal=>exact⟨.normal,Δ,_,ω,hq,rfl,harr⟩
  | exit id=>exact(hE _ _ _ hq).elim
  | goto l=>exact(hE _ _ _ hq).elim
  | ret=>obtain⟨todo,hst⟩:=harr;exact⟨.ret,Δ,_,ω,hq,⟨todo,rfl⟩,hst⟩
  | panic ch=>obtain⟨todo,hst⟩:=harr;exact⟨.panic ch,Δ,_,ω,hq,⟨todo,rfl⟩,hst⟩
  | outgrown=>exact(hE _ _ _ hq).elim
 obtain⟨e,a',fr,w',hq,hat,hst⟩:=harr;refine⟨fr,[],w',hst,⟨rfl,e,a',hq,hat⟩,?_⟩;have hok:=hE e a' w' hq;rintro⟨v,g,hm,hb⟩
 cases e with
 | normal=>cases hat;cases hm
 | ret=>obtain⟨todo,rfl⟩:=hat;cases hm
 | panic ch =>
  obtain⟨todo,rfl⟩:=hat;have hm:FrameMode.panicking ch=.panicking [{v,recovered:=false,goexit:=g}]:=hm
  cases hm
  exact hok v g rfl hb
 | _=>exact hat.elim
theorem GW.pt(hLL:∀ f,L f=true->L' f=true)(hLt:∀ t:Nat,L' (2*t+1000000000)=true->L (2*t+1000000000)=true)(hK:vB P L K)(hL:∀ f,L f=true->fK P f)(hT:Tk P L K){D:Nat->Prop}{c:Code}{r:Code ⊕ Nat}{Q:Exit->Act->World->Prop}(ds:List Deferred)(m:List (Nat×Value))(hb:b.kind=.normal\/b.kind=.deferred)(ha:a.defers=[])(hc:kg P L K [] c=true)(hm:kg P L K m c=true)(hB:cs≠[])(hs:bU P L S D a.tmps w)(hC:∀ τ d,gB P Q [c] a (tp w τ d))(hE:∀ e a w,Q e a w->uE P e)(hQ:∀ e a w τ d,Q e a w->Q e a (tp w τ d))(hn:∀ e a' fr w' D',Q e a' w'->bU P L S D' a'.tmps w'->(∀ a,D a->D' a)->oN b r k e ⟨over m a'.tmps,ds⟩ fr->GW P L' S Φ fr cs w'):GW P L' S Φ (b.at ⟨over m a.tmps,ds⟩ (.code c::fQ r []::k)) cs w:=by
 have hit:Items P L K [] [.code c,.code (.refuse "")]:=by
  intro x hx;simp at hx;rcases hx with rfl|rfl
  .exact hc
  .rfl
 have htr:=R8 (b:={b with kind:=.normal}) hK hL hT (hs.self rfl ha hit) hC hE hQ;have hT':OkT (((ds,some (r,k)),fun _=>b.kind,m):xH):=hb;have key:=GT.above (T:=((ds,some (r,k)),fun _=>b.kind,m)) (B:=cs) (Ψ:=fun fr cs' w'=>cs'=cs/\∃ e a' D',Q e a' w'/\bU P L S D' a'.tmps w'/\(∀ a,D a->D' a)/\oN b r k e ⟨over m a'.tmps,ds⟩ fr) htr hT' (by
  refine⟨?_,[.code c],[],(by cases r <;> first|trivial|rfl),rfl⟩;intro x hx;have:x=.code c\/x=.code (.refuse ""):=by simpa[Frame.at] using hx
  rcases this with rfl|rfl
  .exact hm
  .rfl) hB fun fr cs' w' hi hst=>?_
 .have e:uz (((ds,some (r,k)),fun _=>b.kind,m):xH) (({b with kind:=.normal}:Frame).at a [.code c,.code (.refuse "")]) []=b.at ⟨over m a.tmps,ds⟩ (.code c::fQ r []::k):=by
   show iR _ _=_;have:o8 (some (r,k)) [.code c,.code (.refuse "")]=.code c::fQ r []::k:=lQ (r,k) [.code c] [];unfold iR Frame.at
   simp only[this,ha,yG]
  rw[e] at key;refine(GW.mono hLL hLt key).bind fun fr cs' w' h=>?_
  obtain⟨rfl,e,a',D',h1,h2,h3,h4⟩:=h w'.tape w'.drawn;exact hn e a' fr w' D' h1 h2 h3 h4
 .refine .stop fun τ d=>?_
  obtain⟨⟨rfl,e,a',hq,hat⟩,D',hs',hsup⟩:=hst τ d;obtain⟨hst',hd⟩:=sZ hs';refine⟨rfl,e,a',D',hq,?_⟩;have sQ:bU P L S D' fr.tmps (tp w' τ d):=hst';show _/\_/\oN b r k e ⟨over m a'.tmps,ds⟩ (iR _ fr)
  cases e with
  | normal =>
   cases hat
   refine⟨sQ,hsup,?_⟩;have:o8 (some (r,k)) [fQ (.inl (.refuse "")) []]=fQ r []::k:=lQ (r,k) [] [];have hd:a'.defers=[]:=hd;unfold oN iR Frame.at
   simp only[this,hd,yG]
  | ret =>
   obtain⟨todo,rfl⟩:=hat;refine⟨sQ,hsup,o8 (some (r,k)) todo,?_⟩;have hd:a'.defers=[]:=hd;unfold iR Frame.at
   simp only[hd,yG]
  | panic ch =>
   obtain⟨todo,rfl⟩:=hat;refine⟨sQ,hsup,o8 (some (r,k)) todo,?_⟩;have hd:a'.defers=[]:=hd;unfold iR Frame.at
   simp only[hd,yG]
  | _=>exact hat.elim
theorem zL{fr:Frame}(hm:fr.mode=.run)(h:∀ ops i l k,fr.todo≠.inRegion ops (i::l)::k):dS P L false fr:=by
 unfold dS;rw[hm];exact fun ops i l k o h1 _ _=>absurd h1 (h ops i l k)
theorem nL(ho:ops[i]? = some o)(hok:bT P L o.op=true)(hp:∀ x,o.op≠.panic x):dS P L false (b.at a (.inRegion ops (i::rest)::k)):=by
 unfold dS;show ∀ _ _ _ _ _,_->_
 intro ops' i' l k' o' h1 h2 _;have h1:Item.inRegion ops (i::rest)::k=.inRegion ops' (i'::l)::k':=h1
 cases h1
 rw[ho] at h2
 cases h2
 exact⟨hok,fun x hx=>absurd hx (hp x),fun _ _=>rfl,fun _ _ _=>rfl,fun _ _ _=>rfl⟩
theorem yN{fr:Frame}(hm:fr.mode≠.run)(h:∀ d ds,fr.defers=d::ds->∀ b ts t c,d.target≠.builtin b ts t c):dS P L false fr:=by
 unfold dS;split
 .rename_i hx;exact absurd hx hm
 .exact fun d ds b ts t c h1 h2=>absurd h2 (h d ds h1 b ts t c)
theorem GW.go1(x:Item)(todo':List Item)(hx:∀ ops i l,x≠.inRegion ops (i::l))(h:∀ w,stepG P false (G (b.at a (x::k)) cs) w=.go (G (b.at a todo') cs) w #[])(hn:GW P L S Φ (b.at a todo') cs w):GW P L S Φ (b.at a (x::k)) cs w :=.ctl (zL rfl fun ops i l k' e=>by
  have e:x::k=.inRegion ops (i::l)::k':=e;injection e with e1 e2;exact hx _ _ _ e1) (fun _=>.inl rfl) h hn
theorem GW.seq{x y:Code}(h:GW P L S Φ (b.at a (.code x::.code y::k)) cs w):GW P L S Φ (b.at a (.code (.seq x y)::k)) cs w:=.go1 _ _ (by simp) (fun _=>stepG_seq) h
theorem GW.skip(h:GW P L S Φ (b.at a k) cs w):GW P L S Φ (b.at a (.code .skip::k)) cs w:=.go1 _ _ (by simp) (fun _=>stepG_skip) h
theorem GW.cond{c:Operand}{x y:Code}{t:Bool}(hc:a.eval c=.bool t)(h:GW P L S Φ (b.at a (.code (if t then x else y)::k)) cs w):GW P L S Φ (b.at a (.code (.cond c x y)::k)) cs w:=.go1 _ _ (by simp) (fun _=>stepG_cond hc) h
theorem GW.block{id:Nat}{c:Code}(h:GW P L S Φ (b.at a (.code c::.inBlock id::k)) cs w):GW P L S Φ (b.at a (.code (.block id c)::k)) cs w:=.go1 _ _ (by simp) (fun _=>stepG_block) h
theorem GW.loop{c:Code}(h:GW P L S Φ (b.at a (.code c::.inLoop c::k)) cs w):GW P L S Φ (b.at a (.code (.loop c)::k)) cs w:=.go1 _ _ (by simp) (fun _=>stepG_loop) h
theorem GW.inLoop{c:Code}(h:GW P L S Φ (b.at a (.code c::.inLoop c::k)) cs w):GW P L S Φ (b.at a (.inLoop c::k)) cs w:=.go1 _ _ (by simp) (fun _=>stepG_inLoop) h
theorem GW.inBlock{id:Nat}(h:GW P L S Φ (b.at a k) cs w):GW P L S Φ (b.at a (.inBlock id::k)) cs w:=.go1 _ _ (by simp) (fun _=>stepG_inBlock) h
theorem GW.region{id:Nat}{ops:Array Oper}(h:GW P L S Φ (b.at a (.inRegion ops (List.range ops.size)::k)) cs w):GW P L S Φ (b.at a (.code (.region id ops false)::k)) cs w:=.go1 _ _ (by simp) (fun _=>stepG_region) h
theorem GW.rend{ops:Array Oper}(h:GW P L S Φ (b.at a k) cs w):GW P L S Φ (b.at a (.inRegion ops []::k)) cs w:=.go1 _ _ (by simp) (fun _=>stepG_region_end) h
theorem GW.ret(h:GW P L S Φ {b.at a (.code .ret::k) with mode:=.returning} cs w):GW P L S Φ (b.at a (.code .ret::k)) cs w :=.ctl (zL rfl fun ops i l k' e=>by
  have e:Item.code .ret::k=.inRegion ops (i::l)::k':=e
  cases e) (fun _=>.inl rfl) (fun _=>stepG_ret') h
theorem GW.fin(h:GW P L S Φ {b.at a [] with mode:=.returning} cs w):GW P L S Φ (b.at a []) cs w :=.ctl (zL rfl fun ops i l k' e=>by
  have e:([]:List Item)=.inRegion ops (i::l)::k':=e
  cases e) (fun _=>.inl rfl) (fun _=>stepG_end) h
theorem wY{S:Nat->Prop}{w:World}(h:∀ b,S b->b<w.heap.size)(ob:Obj):∀ b,S b->(w.alloc ob).heap[b]? = w.heap[b]?:=fun b hb=>by
 have:=h b hb;show(w.heap.push ob)[b]? = _;rw[Qi,if_neg (by omega)]
theorem GW.val(ho:ops[i]? = some o)(hw:Region.wanted o (yielded ops a.tmps)=true)(hk:b.kind≠.early)(hok:bT P L o.op=true)(hp:∀ x,o.op≠.panic x)(v:Value)(w':World)(h:∀ τ d,(execOp a.eval o).run P (tp w τ d)=.ok (.value v) (tp w' τ d))(hq:∀ τ d,∀ e∈(execOp a.eval o).events P (tp w τ d) #[],Qt S e)(hn:GW P L S Φ (b.at (a.put o.dst v) (.inRegion ops rest::k)) cs w')(hf:∀ b,S b->w'.heap[b]? = w.heap[b]?:=by exact fun _ _=>rfl):GW P L S Φ (b.at a (.inRegion ops (i::rest)::k)) cs w :=GW.step' (nL ho hok hp) (fun _=>.inl rfl) fun τ d=>⟨_,_,_,_,stepG_value ho hw hk (h τ d),⟨fun e he=>hq τ d e (mem_listed he),hf⟩,hn.zl τ d⟩
theorem GW.non(ho:ops[i]? = some o)(hw:Region.wanted o (yielded ops a.tmps)=true)(hk:b.kind≠.early)(hok:bT P L o.op=true)(hp:∀ x,o.op≠.panic x)(w':World)(h:∀ τ d,(execOp a.eval o).run P (tp w τ d)=.ok .skip (tp w' τ d))(hq:∀ τ d,∀ e∈(execOp a.eval o).events P (tp w τ d) #[],Qt S e)(hn:GW P L S Φ (b.at (a.put o.dst undef) (.inRegion ops rest::k)) cs w')(hf:∀ b,S b->w'.heap[b]? = w.heap[b]?:=by exact fun _ _=>rfl):GW P L S Φ (b.at a (.inRegion ops (i::rest)::k)) cs w :=GW.step' (nL ho hok hp) (fun _=>.inl rfl) fun τ d=>⟨_,_,_,_,stepG_none ho hw hk (h τ d),⟨fun e he=>hq τ d e (mem_listed he),hf⟩,hn.zl τ d⟩
theorem GW.still(ho:ops[i]? = some o)(hw:Region.wanted o (yielded ops a.tmps)=true)(hk:b.kind≠.early)(hok:bT P L o.op=true)(hp:∀ x,o.op≠.panic x)(v:Value)(h:∀ ω,(execOp a.eval o).run P ω=.ok (.value v) ω/\(execOp a.eval o).events P ω #[]=#[])(hn:GW P L S Φ (b.at (a.put o.dst v) (.inRegion ops rest::k)) cs w):GW P L S Φ (b.at a (.inRegion ops (i::rest)::k)) cs w :=.val ho hw hk hok hp v w (fun τ d=>(h _).1) (fun τ d e he=>by rw[(h _).2] at he;simp at he) hn
theorem GW.move(ho:ops[i]? = some o)(hw:Region.wanted o (yielded ops a.tmps)=true)(hk:b.kind≠.early)(hok:bT P L o.op=true){x:Operand}(hop:o.op=.move x\/o.op=.assign x)(hn:GW P L S Φ (b.at (a.put o.dst (a.eval x)) (.inRegion ops rest::k)) cs w):GW P L S Φ (b.at a (.inRegion ops (i::rest)::k)) cs w :=.still ho hw hk hok (fun y e=>by rcases hop with h|h <;> rw[h] at e <;> cases e) _ (fun ω=>hop.elim (fun h=>Cc.Iq h ω) fun h=>Cc.ze h ω) hn
theorem GW.enter(ho:ops[i]? = some o)(hw:Region.wanted o (yielded ops a.tmps)=true)(hk:b.kind≠.early)(hok:bT P L o.op=true)(hp:∀ x,o.op≠.panic x)(f:FuncId)(args:Array Value)(h:∀ ω,(execOp a.eval o).run P ω=.ok (.enter f args) ω/\(execOp a.eval o).events P ω #[]=#[])(hn:GW P L S Φ (Frame.enter P f args .normal) (b.at a (.inRegion ops (i::rest)::k)::cs) w):GW P L S Φ (b.at a (.inRegion ops (i::rest)::k)) cs w :=GW.step' (nL ho hok hp) (fun _=>.inl rfl) fun τ d=>⟨_,_,_,_,stepG_enter ho hw hk (h _).1,⟨fun e he=>by have:=mem_listed he;rw[(h _).2] at this;simp at this,fun _ _=>rfl⟩,hn.zl τ d⟩
theorem GW.leave{fn:Func}{todo:List Item}{c:Frame}{v:Value}(hn:b.kind=.normal)(hd:a.defers=[])(hf:P.funcs[b.fn]? = some fn)(hr:∀ w,(results fn a.tmps).run P w=.ok v w/\(results fn a.tmps).events P w #[]=#[])(hg:GW P L S Φ (c.finish v) cs w):GW P L S Φ {b.at a todo with mode:=.returning} (c::cs) w :=GW.step' (yN (by simp) fun d ds h=>by rw[show({b.at a todo with mode:=.returning}:Frame).defers=a.defers from rfl,hd] at h;cases h) (by simp) fun τ d=>⟨_,_,_,_,stepG_leave hn hd hf (hr _).1 (hr _).2,QS.nil,hg.zl τ d⟩
theorem GW.pe(hLL:∀ f,L f=true->L' f=true)(hLt:∀ t:Nat,L' (2*t+1000000000)=true->L (2*t+1000000000)=true)(hK:vB P L K)(hL:∀ f,L f=true->fK P f)(hT:Tk P L K){D:Nat->Prop}{c:Code}{Q:Act->World->Prop}(hb:b.kind=.normal\/b.kind=.deferred)(ha:a.defers=[])(hc:kg P L K [] c=true)(hB:cs≠[])(hs:bU P L S D a.tmps w)(hC:∀ τ d,c.wp P (fun e a w=>e=.normal/\Q a w) a (tp w τ d))(hQ:∀ a w τ d,Q a w->Q a (tp w τ d))(hn:∀ a' w' D',Q a' w'->a'.defers=[]->bU P L S D' a'.tmps w'->GW P L' S Φ (b.at a' []) cs w'):GW P L' S Φ (b.at a [.code c]) cs w:=by
 have hit:Items P L K [] [.code c]:=by intro x hx;simp at hx;subst hx;exact hc
 have htr:GT P L K S (fun fr cs w'=>(cs=[]/\∃ a',Q a' w'/\fr=({b with kind:=.normal}:Frame).at a' [])/\∃ D',Self P L K true S D' fr cs w'/\∀ a,D a->D' a) (({b with kind:=.normal}:Frame).at a [.code c]) [] w:=by
  refine Bo hK hL hT (hs.self rfl ha hit) (fun τ d=>?_) fun fr cs w τ d ⟨h1,a',h2,h3⟩=>⟨h1,a',hQ a' w τ d h2,h3⟩
  obtain⟨e,Δ,ω,⟨rfl,hq⟩,harr⟩:=(hC τ d) {b with kind:=.normal} [] [Cc.c0];exact⟨_,[],ω,harr,⟨rfl,Δ,hq,rfl⟩,fun⟨v,g,hm,_⟩=>by cases hm⟩
 have hT':OkT ((([],none),fun _=>b.kind,[]):xH):=hb;have key:=GT.above (T:=(([],none),fun _=>b.kind,[])) (B:=cs) (Ψ:=fun fr cs' w'=>cs'=cs/\∃ a' D',Q a' w'/\a'.defers=[]/\bU P L S D' a'.tmps w'/\fr=b.at a' []) htr hT' ⟨hit,trivial⟩ hB fun fr cs' w' hi hst=>?_
 .have e:uz ((([],none),fun _=>b.kind,[]):xH) (({b with kind:=.normal}:Frame).at a [.code c]) []=b.at a [.code c]:=by
   show iR _ _=_;unfold iR Frame.at o8 over;simp
  rw[e] at key;refine(GW.mono hLL hLt key).bind fun fr cs' w' h=>?_
  obtain⟨rfl,a',D',h1,h2,h3,rfl⟩:=h w'.tape w'.drawn;exact hn a' w' D' h1 h2 h3
 .refine .stop fun τ d=>?_
  obtain⟨⟨rfl,a',hq,rfl⟩,D',hs',hsup⟩:=hst τ d;obtain⟨hst',hd⟩:=sZ hs';refine⟨rfl,a',D',hq,hd,hst',?_⟩;show iR _ _=_;unfold iR Frame.at o8 over;simp
theorem TL{main:Bool}{f:FuncId}{fn:Func}{cd:Code}{caps t:Array Value}{ds:List Deferred}{todo:List Item}{M:FrameMode}(hM:M=.returning\/∃ ch,M=.panicking ch)(hf:P.funcs[f]? = some fn)(hname:(fn.name == "runtime.NumGoroutine")=false)(hb:fn.body=some cd):stepG P main (G {b.at ⟨t,{target:=.fn (.func f) caps,args:=#[]}::ds⟩ todo with mode:=M} cs) w=.go (G (Frame.enter P f caps .deferred) ({b.at ⟨t,ds⟩ todo with mode:=M}::cs)) w #[]:=by
 have h1:¬ fn.name = "runtime.NumGoroutine":=by simpa using hname
 rcases hM with rfl|⟨ch,rfl⟩ <;> simp[G,stepG,unwind,callDeferred,Frame.at,invoke,callFunc,hf,h1,hb,GStep.after,seen_none]
theorem GW.out{f:FuncId}{fn:Func}{cd:Code}{caps t:Array Value}{ds:List Deferred}{todo:List Item}{M:FrameMode}(hM:M=.returning\/∃ ch,M=.panicking ch)(hf:P.funcs[f]? = some fn)(hname:(fn.name == "runtime.NumGoroutine")=false)(hb:fn.body=some cd)(h:GW P L S Φ (Frame.enter P f caps .deferred) ({b.at ⟨t,ds⟩ todo with mode:=M}::cs) w):GW P L S Φ {b.at ⟨t,{target:=.fn (.func f) caps,args:=#[]}::ds⟩ todo with mode:=M} cs w :=GW.step' (yN (by rcases hM with rfl|⟨ch,rfl⟩ <;> simp) fun d ds' e b' ts t' c' e2=>by
  have e:{target:=.fn (.func f) caps,args:=#[]}::ds=d::ds':=e;injection e with e1 _;subst e1
  cases e2) (fun _=>.inr (by simp[Frame.at])) fun τ d=>⟨_,_,_,_,TL hM hf hname hb,QS.nil,h.zl τ d⟩
theorem GW.back{fn:Func}{todo:List Item}{c:Frame}{v:Value}(hn:b.kind=.normal\/b.kind=.deferred)(hd:a.defers=[])(hf:P.funcs[b.fn]? = some fn)(hr:∀ w,(results fn a.tmps).run P w=.ok v w/\(results fn a.tmps).events P w #[]=#[])(hg:GW P L S Φ (back b.kind c v) cs w):GW P L S Φ {b.at a todo with mode:=.returning} (c::cs) w :=GW.step' (yN (by simp) fun d ds h=>by rw[show({b.at a todo with mode:=.returning}:Frame).defers=a.defers from rfl,hd] at h;cases h) (by simp) fun τ d=>⟨_,_,_,#[],by
  have e:=jE (P:=P) (main:=false) (fr:={b.at a todo with mode:=.returning}) (c:=c) (cs:=cs) (v:=v) (w:=tp w τ d) hn;have h1:=(hr (tp w τ d)).1;have h2:=(hr (tp w τ d)).2;rw[<-Sem.runT_fst] at h1;rw[nC (by simp)];unfold unwind;have hd':({b.at a todo with mode:=.returning}:Frame).defers=[]:=hd;rw[hd'];dsimp only
  rw[show({b.at a todo with mode:=.returning}:Frame).fn=b.fn from rfl,hf];dsimp only
  have hrt:(results fn a.tmps).runT P (tp w τ d) #[]=(.ok v (tp w τ d),#[]):=Prod.ext h1 h2;rw[show({b.at a todo with mode:=.returning}:Frame).tmps=a.tmps from rfl,hrt];dsimp only
  refine(congrArg (GStep.after (seen P b.fn #[])) e).trans ?_;simp[GStep.after,seen_none];rfl,QS.nil,hg.zl τ d⟩
theorem GW.recover{c:Frame}{v:Value}{ps:List PanicEntry}(ho:ops[i]? = some o)(hw:Region.wanted o (yielded ops a.tmps)=true)(hk:b.kind=.deferred)(hop:o.op=.call {callee:=.builtin .recover,args:=#[],argTypes:=#[]})(hok:bT P L o.op=true)(hc:c.mode=.panicking ({v,recovered:=false}::ps))(hn:GW P L S Φ (b.at (a.put o.dst v) (.inRegion ops rest::k)) ({c with mode:=.panicking ({v,recovered:=true}::ps)}::cs) w):GW P L S Φ (b.at a (.inRegion ops (i::rest)::k)) (c::cs) w:=by
 refine GW.step' (nL ho hok fun x e=>by rw[hop] at e;cases e) (fun _=>.inl rfl) fun τ d=>⟨_,_,_,#[],?_,QS.nil,hn.zl τ d⟩
 have hfin:(b.at a (.inRegion ops (i::rest)::k)).finish v=b.at (a.put o.dst v) (.inRegion ops rest::k):=by rw[Frame.finish_at,ho];rfl
 rw[stepG_oper ho hw,<-hfin];have hr:(execOp a.eval o).run P (tp w τ d)=.ok .recover (tp w τ d):=by unfold execOp;simp[go_sem,hop]
 have he:(execOp a.eval o).events P (tp w τ d) #[]=#[]:=by unfold execOp;simp[go_sem,hop]
 simp[stepG.apply,hr,he,G,Frame.at,hk,GStep.after,seen_none,tryRecover,hc]
theorem GW.VW{c:Frame}(ho:ops[i]? = some o)(hw:Region.wanted o (yielded ops a.tmps)=true)(hk:b.kind=.deferred)(hop:o.op=.call {callee:=.builtin .recover,args:=#[],argTypes:=#[]})(hok:bT P L o.op=true)(hc:c.mode=.returning)(hn:GW P L S Φ (b.at (a.put o.dst .nilIface) (.inRegion ops rest::k)) (c::cs) w):GW P L S Φ (b.at a (.inRegion ops (i::rest)::k)) (c::cs) w:=by
 refine GW.step' (nL ho hok fun x e=>by rw[hop] at e;cases e) (fun _=>.inl rfl) fun τ d=>⟨_,_,_,#[],?_,QS.nil,hn.zl τ d⟩
 have hfin:(b.at a (.inRegion ops (i::rest)::k)).finish .nilIface=b.at (a.put o.dst .nilIface) (.inRegion ops rest::k):=by rw[Frame.finish_at,ho];rfl
 rw[stepG_oper ho hw,<-hfin];have hr:(execOp a.eval o).run P (tp w τ d)=.ok .recover (tp w τ d):=by unfold execOp;simp[go_sem,hop]
 have he:(execOp a.eval o).events P (tp w τ d) #[]=#[]:=by unfold execOp;simp[go_sem,hop]
 simp[stepG.apply,hr,he,G,Frame.at,hk,GStep.after,seen_none,tryRecover,hc]
theorem GW.dfr{dd:Deferred}(ho:ops[i]? = some o)(hw:Region.wanted o (yielded ops a.tmps)=true)(hk:b.kind≠.early)(hok:bT P L o.op=true)(hp:∀ x,o.op≠.panic x)(h:∀ ω,(execOp a.eval o).run P ω=.ok (.defer dd) ω/\(execOp a.eval o).events P ω #[]=#[])(hn:GW P L S Φ (b.at (Act.put ⟨a.tmps,dd::a.defers⟩ o.dst undef) (.inRegion ops rest::k)) cs w):GW P L S Φ (b.at a (.inRegion ops (i::rest)::k)) cs w:=by
 refine GW.step' (nL ho hok hp) (fun _=>.inl rfl) fun τ d=>⟨_,_,_,#[],?_,QS.nil,hn.zl τ d⟩
 have hfin:(b.at ⟨a.tmps,dd::a.defers⟩ (.inRegion ops (i::rest)::k)).finish undef=b.at (Act.put ⟨a.tmps,dd::a.defers⟩ o.dst undef) (.inRegion ops rest::k):=by rw[Frame.finish_at,ho];rfl
 have hk':(b.kind==CallKind.early)=false:=by simpa using hk
 rw[stepG_oper ho hw,<-hfin];simp[stepG.apply,(h (tp w τ d)).1,(h (tp w τ d)).2,G,Frame.at,hk',GStep.after,seen_none]
end
end Sr
end
section
open Go.Conc
namespace Cc
def Rh(P:Program)(L:List FuncId):Bool:=(L.all fun f=>match P.funcs[f]? with
 | some fn=>match fn.body with
  | some c=>gU P L c
  | none=>true
 | none=>true)&&P.funcs.all fun f=>((f.body.map readies).getD []).isEmpty
theorem F7{P:Program}{L:List FuncId}(h:Rh P L=true)(hE:J8 P L):fO P L:=by
 unfold Rh at h;rw[fE,Ej,qbO] at h;refine⟨fun f hf fn c hfn hb=>?_,fun g=>?_,hE⟩
 .unfold oD at hf;rw[fE] at hf;have:=h.1 f (by simpa using hf.1);rw[hfn] at this;simp only[hb] at this;exact this
 .unfold Program.stepOf;rw[Array.findIdx?_eq_none_iff];intro f hf;have:=h.2 f hf
  cases hb:f.body with
  | none=>rfl
  | some c =>
   rw[hb] at this;simp only[MK,Option.getD_some,List.isEmpty_iff] at this;simp[this]
end Cc
end
section
section
variable {P:Program}{w:World}
theorem I7{e:TypeId}(he:P.underlying e=some (.int .u8))(x:List UInt8)(i:Nat)(hi:i<x.length):(part e (x.map jJ).toArray i).run P w=.ok (.int .u8 ((x.getD i 0).toNat:Int)) w:=by
 simp[part,isAgg,run_underlying he,Result.andThen,hi,jJ,List.getD,kM hi]
theorem forIn_eq{e:TypeId}(he:P.underlying e=some (.int .u8))(d n:Nat)(x y:List UInt8)(hx:x.length=n)(hy:y.length=n):∀ (m k:Nat),k+m=n -> (forIn (List.range' k m) ((none,()):Option Bool×Unit) (fun i _=>do
     let a <-part e (List.map jJ x).toArray i
     let b <-part e (List.map jJ y).toArray i
     let r <-Op.equalIn (d+1) e a b
     if r=false then pure (ForInStep.done (some false,())) else pure (ForInStep.yield (none,()))):Sem (Option Bool×Unit)).run P w=.ok (if x.drop k=y.drop k then(none,()) else(some false,())) w
 | 0,k,hk=>by
  rw[qa9 (by omega),qa9 (by omega)];simp
 | m+1,k,hk=>by
  have ih:=forIn_eq he d n x y hx hy m (k+1) (by omega);have hkx:k<x.length:=by omega
  have hky:k<y.length:=by omega
  have ex:x.getD k 0=x[k]:=by simp[List.getD,kM hkx]
  have ey:y.getD k 0=y[k]:=by simp[List.getD,kM hky]
  rw[List.range'_succ,qbn];simp only[Sem.run_bind,I7 he x k hkx,I7 he y k hky,Result.andThen_ok,run_equalIn_int w d e .u8 .u8 _ _ he,ex,ey];rw[qbJ hkx,qbJ hky];by_cases h:x[k]=y[k]
  .have hb:(((x[k]).toNat:Int)==((y[k]).toNat:Int))=true:=by rw[h];simp
   simp only[hb,qbo,h,true_and];simp only[BEq.rfl,Bool.true_eq_false,if_false,Sem.run_pure,Result.andThen_ok];exact ih
  .have hb:(((x[k]).toNat:Int)==((y[k]).toNat:Int))=false:=by rw[beq_eq_false_iff_ne];intro h2;exact h (VL.1 (by omega))
   simp only[hb,qbo,h,false_and,if_false,if_true,Sem.run_pure,Result.andThen_ok]
theorem KT(d n:Nat)(t e:TypeId)(x y:List UInt8)(ht:P.underlying t=some (.array n e))(he:P.underlying e=some (.int .u8))(hs:(P.info? e).map (·.size)=some 1)(hx:x.length=n)(hy:y.length=n):(Op.equalIn (d+2) t (.agg (x.map jJ).toArray) (.agg (y.map jJ).toArray)).run P w=.ok (decide (x=y)) w:=by
 obtain⟨i,hi,h1⟩:=zA.1 hs;rw[Op.equalIn];simp[run_underlying ht,sizeOf,typeInfo,hi,h1,Result.andThen];rw[forIn_eq he d n x y hx hy n 0 (by omega)];simp only[List.drop_zero];by_cases h:x=y
 .simp[h]
 .simp[h]
end
end
section
def aL(l:List UInt8):Array Value:=(l.map jJ).toArray
theorem eZ(l:List UInt8):(aL l).size=l.length:=by simp[aL]
theorem sI(l:List UInt8):∀ u∈(aL l).toList,u.oneCell'=true:=by simpa[aL] using kY l
theorem tF(l:List UInt8)(k:Nat)(h:k<l.length):(aL l)[k]? = some (.int .u8 ((l.getD k 0).toNat:Int)):=by
 simp[aL,List.getD,kM h,jJ]
theorem wQ(l:List UInt8)(k:Nat)(b:UInt8):(aL l).setIfInBounds k (jJ b)=aL (l.set k b):=by
 simp[aL,List.map_set]
theorem Nj{w:World}{g:Nat}{l:List UInt8}{e:TypeId}{fr:Nat×Nat}(h:w.heap[g]? = some (.cells (aL l) e fr))(L M c:Nat)(h1:L<=M)(h2:M<=l.length)(h3:M-L<=c)(h4:c<=maxLen):Bs w (some ⟨g,L,none⟩) (M-L) c ((l.take M).drop L):=by
 refine⟨by simp;omega,h3,h4,fun j x hj=>⟨_,rfl,?_⟩,fun h=>by cases h⟩;rw[Addr.add_lit,cell_of_row _ _ _ _ _ _ h];rw[qce,qbZ,qbE,VX] at hj;split at hj
 .simpa[aL] using hj
 .cases hj
structure ko(w:World)(e:TypeId)(l:List UInt8)(wr:World):Prop where
 bJ:Below w.heap.size w wr
 row:wr.heap[w.heap.size]? = some (.cells (aL l) e (0,0))
theorem ko.new(w:World)(e:TypeId)(l:List UInt8):ko w e l (w.alloc (.cells (aL l) e)):=⟨(Below.refl _ _).alloc (aY _) _,heap_alloc_new w _⟩
theorem ko.set{w wr:World}{e:TypeId}{l:List UInt8}(h:ko w e l wr)(k:Nat)(b:UInt8):ko w e (l.set k b) (wr.setCell ⟨w.heap.size,k,none⟩ (.int .u8 (b.toNat:Int))):=by
 refine⟨h.bJ.setCell (by simp) _,?_⟩;rw[heap_setCell_same _ _ _ _ _ _ h.row,show(Value.int .u8 (b.toNat:Int))=jJ b from rfl,wQ]
theorem ko.cell{w wr:World}{e:TypeId}{l:List UInt8}(h:ko w e l wr)(k:Nat)(hk:k<l.length):wr.cell? ⟨w.heap.size,k,none⟩=some (.int .u8 ((l.getD k 0).toNat:Int)):=by
 rw[cell_of_row _ _ _ _ _ _ h.row,tF _ _ hk]
theorem ko.ac8{w wr:World}{e:TypeId}{l:List UInt8}(h:ko w e l wr)(k:Nat):wr.frozen? ⟨w.heap.size,k,none⟩=false:=frozen_of_row _ _ _ _ _ h.row
section
variable {P:Program}{ops:Array Oper}{rest:List Oper}{o:Oper}{a:Act}{w:World}{Q:Exit->Act->World->Prop}
theorem bA(hgd:o.guard=none)(t:TypeId)(x:Operand)(lo hi:Option Operand)(ho:o.op=.slice t x lo hi none){e:TypeId}{n:Nat}(ht:P.underlying t=some (.array n e))(hsz:(P.info? e).map (·.size)=some 1)(g:Nat)(hx:a.eval x=.pointer (some ⟨g,0,none⟩))(L M:Nat)(k1 k2:IntKind)(hL:match lo with|some p=>a.eval p=.int k1 (L:Int)|none=>L=0)(hM:match hi with|some p=>a.eval p=.int k2 (M:Int)|none=>M=n)(h1:L<=M)(h2:M<=n)(h3:L<n)(h:wpList P ops Q rest (a.put o.dst (.slice (some ⟨g,L,none⟩) (M-L) (n-L))) w):wpList P ops Q (o::rest) a w:=by
 refine bI hgd _ _ ?_ h;obtain⟨i,hi',hs'⟩:=zA.1 hsz;have hne:¬ n=L:=by omega
 have e1:(L:Int)<=M:=by omega
 have e2:(M:Int)<=n:=by omega
 have e3:(L:Int)<=n:=by omega
 have f3:L<=n:=by omega
 have ha:(Addr.add ⟨g,0,none⟩ L)=(⟨g,L,none⟩:Addr):=by rw[Addr.add_lit,lU]
 cases lo <;> cases hi <;> simp only at hL hM
 all_goals first|subst hL|skip
 all_goals first|subst hM|skip
 all_goals simp[execOp,ho,hx,Instr.sliceAt,Instr.sureAddr,Instr.sliceBounds,Instr.sliceBound,run_underlying ht,sizeOf,typeInfo,hi',hs',asIntOf,hne,Result.andThen, *]
end
end
def cZ:List UInt8:=List.replicate 512 0
theorem nS:cZ.length=512:=by unfold cZ;rw[Xm]
theorem Bw:(qp0.info? 70).bind (·.zero)=some (.agg (aL cZ)):=by kernel_rfl
theorem VD(w:World):(Instr.build 70 #[]).run qp0 w=.ok (.agg (aL cZ)) w:=by kernel_rfl
theorem iL(l:List UInt8)(h:l.length=512):(qp0.info? 70).map (·.size)=some (aL l).size:=by rw[eZ,h];kernel_rfl
theorem ae9(x y:List UInt8)(hx:x.length=512)(hy:y.length=512)(w:World):(Op.equalIn 10000 70 (.agg (aL x)) (.agg (aL y))).run qp0 w=.ok (decide (x=y)) w :=KT 9998 512 70 5 x y underlying70 underlying5 (by kernel_rfl) hx hy
theorem abE(x y:List UInt8)(hx:x.length=512)(hy:y.length=512)(w:World):(binOp .eql 70 (.agg (aL x)) (.agg (aL y))).run qp0 w=.ok (.bool (decide (x=y))) w:=by
 rw[run_eql_struct,ae9 x y hx hy];rfl
theorem VA:qp0.eqGuardType qp0.depth 70=false:=by kernel_rfl
theorem CK(l:List UInt8)(hl:l.length=512)(w:World):Calls qp0 144 #[.agg (aL l)] w fun e w'=>e=.returned (.bool (decide (l=cZ)))/\Below w.heap.size w w':=by
 have hq:=abE l cZ hl nS;have hm:=VA;generalize decide (l=cZ)=r at *
 have hi:=ah (iL l hl);go_enter func144,ntmps144;go_wp2_with (first|(with_reducible first|refine dO rfl _ _ rfl (aL l) rfl ?_|refine wpList_load_row rfl _ _ rfl w.heap.size rfl 70 (aL l) (0,0) _ (heap_alloc_new w _) underlying70 rfl hi.out ?_|refine CO rfl _ rfl _ VD ?_))
 go_ret;exact⟨rfl,(Below.refl _ _).alloc (aY _) _⟩
theorem Qk{w:World}{a:Option Addr}{n c:Nat}{l:List UInt8}(h:Bs w a n c l)(M:Nat)(hM:M<=n):Bs w a M c (l.take M):=by
 have hl:=h.len;have hc:=h.cap;refine⟨by simp;omega,by omega,h.2.2.1,fun j v hj=>h.2.2.2.1 j v ?_,fun hn=>by have:=h.2.2.2.2 hn;omega⟩;rw[qbZ,VX] at hj;split at hj
 .exact hj
 .cases hj
section
open Go.Conc
namespace Cc
theorem NP{w:World}{base:Nat}{e:TypeId}{sz:Nat}{v:Value}{n:Nat}{xs:List Value}(h:w.ownsRow base e sz v n xs){p:Nat}(hp:∀ k,v.ownBlock=some k->k<p)(cs:Array Value):(w.setRow p cs).ownsRow base e sz v n xs:=by
 have hlt:=h.lt;obtain⟨h1,h2⟩:=h;refine⟨h1,?_⟩;rcases h2 with h2|⟨g,cap,cur,hv,hg,hh,r⟩
 .exact Or.inl h2
 .have:=hp g (by rw[hv];rfl);exact Or.inr ⟨g,cap,cur,hv,hg,by rw[setRow_other w p g cs (by omega)];exact hh,r⟩
section
variable {P:Program}{w0:World}{c:Nat}{Stop:Goroutine->World->Prop}{b:Frame}{a:Act}{k:List Item}{cs:List Frame}{w:World}{ops:Array Oper}{i:Nat}{rest:List Nat}{o:Oper}{n:Nat}
theorem YX{t:TypeId}(hop:o.op=.alloc t){z:Array Value}(hz:(P.info? t).bind (·.zero)=some (.agg z))(w:World):(execOp a.eval o).events P w #[]=#[]:=by
 obtain⟨i,hi,h0⟩:=qbc.1 hz;unfold execOp;simp[go_sem,hop,Instr.alloc,zeroValue,typeInfo,hi,h0,newVar,newRow,Value.cells]
theorem ad7{x:Operand}{t e:TypeId}{z:Array Value}(hop:o.op=.buildSlice t 1 #[(0,x)])(ht:P.underlying t=some (.slice e))(cs:Array Value)(hi:(P.info? e).map (fun i=>(i.zero,i.size))=some (some (.agg z),cs.size))(hpos:0<cs.size)(hlim:cs.size<=16777216)(hx:a.eval x=.agg cs)(w:World):(execOp a.eval o).events P w #[]=#[]:=by
 obtain⟨i,hi',hh⟩:=zA.1 hi;simp only[MV] at hh;obtain⟨h0,h1⟩:=hh;have hne:¬ cs.size=0:=by omega
 have Yv:¬ 16777216<cs.size:=by omega
 have hf:=fill_whole ((Array.range (1*cs.size)).map (z[·%z.size]!)) cs cs.size (by simp) rfl;simp only[Nat.one_mul] at hf;simp[execOp,hop,hx,Instr.buildSlice,run_underlying ht,sizeOf,zeroValue,typeInfo,hi',h0,h1,hne,Yv,Value.cells,hf,newRow]
theorem YV{x y:Operand}{ty:TypeId}(hop:o.op=.store ty x y)(g:Nat)(hx:a.eval x=.pointer (some ⟨g,0,none⟩))(cs:Array Value)(hy:a.eval y=.agg cs)(old:Array Value)(t:TypeId)(w:World)(hh:w.heap[g]? = some (.cells old t (0,0)))(hsz:old.size=cs.size)(hi:(P.info? ty).map (·.size)=some cs.size)(h1:∀ u∈cs.toList,u.oneCell'=true):∀ e∈(execOp a.eval o).events P w #[],∀ ad,e.loc=.cell ad->ad.block=g:=by
 intro e he ad had;obtain⟨i,hi',hs'⟩:=zA.1 hi;simp[execOp,hop,hx,hy,Instr.storeAt,Instr.sureAddr,storeVar,sizeOf,typeInfo,hi',hs',Value.cells] at he;rcases events_storeCells_at (P:=P) g 0 t cs.toList 0 old w #[] hh (by simp;omega) h1 e he with h|⟨Un,h2,h3⟩
 .simp at h
 .rw[had] at h2;cases h2;exact h3
end
section
variable (c:Nat)(cs:List Frame)(d:Value)
end
section
variable (wE w0:World)(cs:List Frame)(d:Value){Stop:Goroutine->World->Prop}
end
end Cc
end
section
open Go.Conc
namespace Cc
section
variable {P:Program}{w:World}{Φ:Goroutine->World->Prop}{b:Frame}{a:Act}{k:List Item}{cs:List Frame}{ops:Array Oper}{i:Nat}{rest:List Nat}{o:Oper}
theorem BW.jU(ho:ops[i]? = some o)(hw:Region.wanted o (yielded ops a.tmps)=true)(hk:b.kind≠.early)(v:Value)(h:∀ ω,(execOp a.eval o).run P ω=.ok (.value v) ω/\(execOp a.eval o).events P ω #[]=#[])(hn:BW P (G (b.at (a.put o.dst v) (.inRegion ops rest::k)) cs) w Φ):BW P (G (b.at a (.inRegion ops (i::rest)::k)) cs) w Φ :=.ctl rfl (fun ω=>by
  rw[stepG_value ho hw hk (h ω).1];unfold listed;rw[(h ω).2,seen_none]) hn
theorem BW.move(ho:ops[i]? = some o)(hw:Region.wanted o (yielded ops a.tmps)=true)(hk:b.kind≠.early){x:Operand}(hop:o.op=.move x\/o.op=.assign x)(hn:BW P (G (b.at (a.put o.dst (a.eval x)) (.inRegion ops rest::k)) cs) w Φ):BW P (G (b.at a (.inRegion ops (i::rest)::k)) cs) w Φ :=.jU ho hw hk _ (fun ω=>hop.elim (fun h=>Iq h ω) fun h=>ze h ω) hn
theorem BW.ret(h:BW P (G {b.at a (.code .ret::k) with mode:=.returning} cs) w Φ):BW P (G (b.at a (.code .ret::k)) cs) w Φ:=.ctl rfl (fun _=>by rw[stepG_ret']) h
theorem BW.makeChan(ho:ops[i]? = some o)(hw:Region.wanted o (yielded ops a.tmps)=true)(hk:b.kind≠.early){t e:TypeId}{dir:ChanDir}{x:Operand}(hop:o.op=.makeChan t x)(ht:P.underlying t=some (.chan dir e)){inf:TypeInfo}(hi:P.info? e=some inf)(n:Nat)(hx:a.eval x=.int .i64 n)(hn:(n:Int)<=9223372036854775807)(hb:(inf.bytes:Int)*n<=281474976710544)(h:BW P (G (b.at (a.put o.dst (.chan (some w.heap.size))) (.inRegion ops rest::k)) cs) (w.alloc (.chan n #[] false 0 0 false)) Φ):BW P (G (b.at a (.inRegion ops (i::rest)::k)) cs) w Φ:=by
 refine BW.step rfl fun d=>?_
 have hr:(execOp a.eval o).run P (w.at d)=.ok (.value (.chan (some w.heap.size))) ((w.at d).alloc (.chan n #[] false 0 0 false)):=by
  simp[execOp,hop,hx,run_makeChan (P:=P) (w:=w.at d) ht hi .i64 n hn hb,Result.andThen];rfl
 have he:(execOp a.eval o).events P (w.at d) #[]=#[]:=by
  simp[execOp,hop,hx,events_makeChan (P:=P) (w:=w.at d) ht hi .i64 n hn hb,run_makeChan (P:=P) (w:=w.at d) ht hi .i64 n hn hb,Result.evThen]
 refine⟨_,(w.at d).alloc (.chan n #[] false 0 0 false),#[],?_,by simp;exact Nat.le_succ _,by simp,h.at d⟩;rw[stepG_value ho hw hk hr];unfold listed;rw[he,seen_none]
end
def fI(w w':World):Prop:=Below w.heap.size (tp w w'.tape w'.drawn) w'
theorem fI.tp{w w':World}(h:fI w w')(τ:Nat->Question->Nat)(d:Nat):fI w (tp w' τ d):=⟨h.os,rfl,h.output,h.size,h.block⟩
theorem fI.of{w w':World}(h:Below w.heap.size w w'):fI w w':=⟨h.os,rfl,h.output,h.size,h.block⟩
theorem fI.pR{w w':World}{τ:Nat->Question->Nat}{d:Nat}(h:Below w.heap.size (Cc.tp w τ d) w'):fI w w':=⟨h.os,rfl,h.output,h.size,h.block⟩
theorem fI.seq{w w' w'':World}(h:fI w w')(h':fI w' w''):fI w w'':=⟨h'.os.trans h.os,rfl,h'.output.trans h.output,tT h.size h'.size,fun k hk=>(h'.block k (CW hk h.size)).trans (h.block k hk)⟩
theorem fI.refl(w:World):fI w w:=⟨rfl,rfl,rfl,aY _,fun _ _=>rfl⟩
theorem fI.keeps{w w':World}(h:fI w w'):Keeps w w':=fun p v hv=>by
 have hlt:=World.block_lt_of_cell? (w:=w) (a:=p) hv;rw[World.cell?_of_block (w:=w) (h.block p.block hlt)];exact hv
section
variable {w:World}{Φ:Goroutine->World->Prop}{b:Frame}{a:Act}{k:List Item}{cs:List Frame}{ops:Array Oper}{i:Nat}{rest:List Nat}{o:Oper}
end
end Cc
end
section
open Go.Conc
namespace Cc
section
variable {P:Program}{L:List FuncId}{w:World}{Φ:Goroutine->World->Prop}{b:Frame}{a:Act}{k:List Item}{cs:List Frame}{ops:Array Oper}{i:Nat}{rest:List Nat}{o:Oper}
theorem BW.op1{Rr:Act->World->Prop}(hP:fO P L)(ho:ops[i]? = some o)(hk:b.kind≠.early)(hok:bT P [] o.op=true)(hw:∀ τ d,wpList P ops (fun e a w=>e=.normal/\Rr a w) [o] a (tp w τ d))(hR:∀ a w τ d,Rr a w->Rr a (tp w τ d))(hn:∀ a' w',Rr a' w'->BW P (G (b.at a' (.inRegion ops rest::k)) cs) w' Φ):BW P (G (b.at a (.inRegion ops (i::rest)::k)) cs) w Φ:=by
 have hpos:∀ j,j<[o].length->[o][j]? = ops[i+j]?:=fun j hj=>by
  have:j=0:=by simpa using hj
  subst this;simpa using ho.symm
 have:=BW.ops (rest:=rest) (k:=k) (cs:=cs) (Φ:=Φ) [o] i hk hP hpos (by simpa using hok) hw hR hn;simpa using this
theorem BW.TV(v:Value){Rw:World->Prop}(hP:fO P L)(ho:ops[i]? = some o)(hk:b.kind≠.early)(hok:bT P [] o.op=true)(hw:∀ τ d,wpList P ops (fun e x y=>e=.normal/\x=a.put o.dst v/\Rw y) [o] a (tp w τ d))(hR:∀ w τ d,Rw w->Rw (tp w τ d))(hn:∀ w',Rw w'->BW P (G (b.at (a.put o.dst v) (.inRegion ops rest::k)) cs) w' Φ):BW P (G (b.at a (.inRegion ops (i::rest)::k)) cs) w Φ :=BW.op1 (Rr:=fun x y=>x=a.put o.dst v/\Rw y) hP ho hk hok hw (fun _ _ _ _ h=>⟨h.1,hR _ _ _ h.2⟩) fun _ _ h=>h.1 ▸ hn _ h.2
theorem BW.aie{id:Nat}{l:List Oper}(a':Act)(hP:fO P L)(hk:b.kind≠.early)(hok:(l.all fun o=>bT P [] o.op)=true)(hw:∀ τ d,wpList P l.toArray (fun e x y=>e=.normal/\x=a'/\y=tp w τ d) l a (tp w τ d))(hn:BW P (G (b.at a' k) cs) w Φ):BW P (G (b.at a (.code (.region id l.toArray false)::k)) cs) w Φ:=by
 refine BW.region ?_;have:=BW.still (ops:=l.toArray) (rest:=[]) (k:=k) (cs:=cs) (Φ:=Φ) a' l 0 hk hP (fun j hj=>by simp) hok hw (BW.rend hn);simpa using this
end
theorem u7{P:Program}{fn:Func}{R R':Value->World->Prop}(h:∀ v w,R v w->R' v w){e:Exit}{a:Act}{w:World}(hq:bodyPost P fn (fun e w'=>∃ v,e=.returned v/\R v w') e a w):bodyPost P fn (fun e w'=>∃ v,e=.returned v/\R' v w') e a w:=by
 cases e with
 | normal=>obtain⟨h1,v,h2,v',h3,h4⟩:=hq;exact⟨h1,v,h2,v',h3,h _ _ h4⟩
 | ret=>obtain⟨h1,v,h2,v',h3,h4⟩:=hq;exact⟨h1,v,h2,v',h3,h _ _ h4⟩
 | panic ch=>obtain⟨h1,v,h3,_⟩:=hq;cases h3
 | outgrown=>obtain⟨v,h3,_⟩:=hq;cases h3
 | exit id=>exact hq.elim
 | goto l=>exact hq.elim
theorem fI.frame{w w':World}(h:fI w w')(may:MemPlace->Prop):w.keptBut w' may:=by
 refine⟨h.os,h.output,fun i hi=>?_⟩;have:w'.heap[i]? = w.heap[i]?:=h.block i hi;rw[this];split <;> simp_all
theorem fI.trod{H:Type}{enc:TypeId×Value->H}{P:Program}{t:TypeId}(hl:laidOutB P=true)(hr:P.readableRec t=true)(hrow:t<P.types.size){W W':World}{v:Value}{d:DataW H}{ps:List MemPlace}(h:DataW.Trod enc P W 0 (fun _=>true) true t v d ps)(hb:fI W W')(hlt:∀ x∈ps,x.block<W.heap.size):DataW.Trod enc P W' 0 (fun b=>decide (b<W.heap.size)) true t v d ps :=Below.trod (W:=Cc.tp W W'.tape W'.drawn) hl hr hrow (DataW.Trod.of_heap (w':=Cc.tp W W'.tape W'.drawn) (show W.heap=(Cc.tp W W'.tape W'.drawn).heap from rfl) h) hb hlt
end Cc
end
section
open Go.Conc
namespace Cc
section
variable {P:Program}{L:List FuncId}{w:World}{Φ:Goroutine->World->Prop}{b:Frame}{a:Act}{k:List Item}{cs:List Frame}{ops:Array Oper}{i:Nat}{rest:List Nat}{o:Oper}
theorem BW.ends{f:FuncId}{fn:Func}{tmps:Array Value}{todo:List Item}{v:Value}{Post:Value->World->Prop}(hf:P.funcs[f]? = some fn)(hi:P.inits.idxOf? f=none)(hres:∀ w,(results fn tmps).run P w=.ok v w)(hp:∀ d,Post v (w.at d)):BW P (G {(base f).at ⟨tmps,[]⟩ todo with mode:=.returning} []) w (Ends P Post) :=.done fun d=>⟨f,tmps,todo,fn,v,rfl,hf,hi,fun d'=>⟨hres _,hp d'⟩⟩
end
end Cc
end
section
open Go.Conc
open Cc (tp Low nI qR dZ uy fM oD)
namespace Sr
section
variable {P:Program}{S X X':Nat->Prop}{Stop:(Nat->Prop)->Goroutine->World->Prop}{b:Frame}{a:Act}{k:List Item}{cs:List Frame}{w:World}{ops:Array Oper}{i:Nat}{rest:List Nat}{o:Oper}{n:Nat}
theorem iw.idle(w:World):iw S X w w #[] X:=⟨aY _,rfl,rfl,rfl,fun _ _ _=>rfl,fun _ h=>h,fun _ h=>.inl h,by simp⟩
theorem wm{g:Goroutine}(h:∀ ω,Rel S X w ω->Stop X g ω):MG P S Stop n X g w:=by
 cases n with
 | zero=>exact h
 | succ n=>exact .inl h
theorem dh{g g':Goroutine}(hr:g.status=.running)(h:∀ w,stepG P true g w=.go g' w #[])(hn:MG P S Stop n X g' w):MG P S Stop (n+1) X g w :=.inr ⟨hr,fun ω θ=>⟨g',ω,#[],X,h ω,.idle ω,hn.rely θ⟩⟩
theorem oV(ho:ops[i]? = some o)(hw:Region.wanted o (yielded ops a.tmps)=true)(hk:b.kind≠.early)(v:Value)(h:∀ ω,(execOp a.eval o).run P ω=.ok (.value v) ω/\(execOp a.eval o).events P ω #[]=#[])(hn:MG P S Stop n X (G (b.at (a.put o.dst v) (.inRegion ops rest::k)) cs) w):MG P S Stop (n+1) X (G (b.at a (.inRegion ops (i::rest)::k)) cs) w :=dh rfl (fun ω=>by
  rw[stepG_value ho hw hk (h ω).1];unfold listed;rw[(h ω).2,seen_none]) hn
theorem CB{Rr:World->Act->World->Prop}(ho:ops[i]? = some o)(hw:Region.wanted o (yielded ops a.tmps)=true)(hk:b.kind≠.early)(hok:Cc.bT P [] o.op=true)(h:∀ ω,Rel S X w ω->wpList P ops (fun e a' w'=>e=.normal/\Rr ω a' w') [o] a ω)(hn:∀ ω a' w',Rel S X w ω->Rr ω a' w'->ω.heap.size<=w'.heap.size->(∀ e∈listed P b.fn a o ω,Low w'.heap.size e/\e∈(execOp a.eval o).events P ω #[])->∃ X',iw S X ω w' (listed P b.fn a o ω) X'/\MG P S Stop n X' (G (b.at a' (.inRegion ops rest::k)) cs) w'):MG P S Stop (n+1) X (G (b.at a (.inRegion ops (i::rest)::k)) cs) w:=by
 refine .inr ⟨rfl,fun ω θ=>?_⟩;obtain⟨m,r,es',hr⟩:=dZ (uy (P:=P) (L:=[]) (hE:=Cc.zF P) (ρ:=a.eval) (o:=o) (fun f=>rfl) hok) ω #[];have hlow:=qR hr.low;have hrun:(execOp a.eval o).run P ω=r:=by rw[<-Sem.runT_fst,hr.eq]
 have hev:(execOp a.eval o).events P ω #[]=es':=by unfold Sem.events;rw[hr.eq]
 have hlist:listed P b.fn a o ω=seen P b.fn es':=by unfold listed;rw[hev]
 have hwp:=h ω θ;unfold wpList at hwp;rw[if_pos hw] at hwp;rcases hwp with hwp|⟨_,x,y,hq⟩
 .unfold Oper.wp at hwp;rw[hrun] at hwp
  cases r with
  | ok nx w' =>
   have hg:=hr.good nx w' rfl
   cases nx with
   | value v =>
    obtain⟨X',h1,h2⟩:=hn ω _ w' θ hwp.2 hr.size fun e he=>⟨(by rw[hlist] at he;exact fM hlow e he),mem_listed he⟩
    exact⟨_,_,_,X',stepG_value ho hw hk hrun,h1,h2⟩
   | skip =>
    obtain⟨X',h1,h2⟩:=hn ω _ w' θ hwp.2 hr.size fun e he=>⟨(by rw[hlist] at he;exact fM hlow e he),mem_listed he⟩
    exact⟨_,_,_,X',stepG_none ho hw hk hrun,h1,h2⟩
   | enter f args=>simp[nI,oD] at hg
   | _=>exact hg.elim
  | halt x w' =>
   cases x with
   | panic v=>have:=hwp.1;cases this
   | _=>exact hwp.elim
 .have:=hq.1;cases this
theorem tN(ho:ops[i]? = some o)(hw:Region.wanted o (yielded ops a.tmps)=true)(hk:b.kind≠.early){x:Operand}(hop:o.op=.move x\/o.op=.assign x)(hn:MG P S Stop n X (G (b.at (a.put o.dst (a.eval x)) (.inRegion ops rest::k)) cs) w):MG P S Stop (n+1) X (G (b.at a (.inRegion ops (i::rest)::k)) cs) w :=oV ho hw hk _ (fun ω=>hop.elim (fun h=>Cc.Iq h ω) fun h=>Cc.ze h ω) hn
theorem pV{es:Array Event}{m:Nat}(hl:∀ e∈es,Low m e)(hx:∀ e∈es,(∃ ad,e.loc=.cell ad/\X ad.block)\/∃ mk,e=⟨.mark mk,false,true⟩):∀ e∈es,EvX X S m e:=by
 intro e he;rcases hx e he with⟨ad,h1,h2⟩|⟨mk,rfl⟩
 .rcases hl e he with⟨a,h3,h4,h5⟩|⟨r,h3,_⟩|h3
  .rw[h1] at h3;cases h3
   exact .inl (.inl ⟨ad,ad.block,h1,h2,h4,h5⟩)
  .rw[h1] at h3;cases h3
  .rw[h1] at h3;cases h3
 .rcases hl _ he with⟨a,h3,_⟩|⟨r,h3,_⟩|h3
  .cases h3
  .cases h3
  .have:mk=.noRoom:=by simpa using h3
   subst this;exact .inl (.inr (.inr ⟨_,rfl,rfl,rfl,rfl⟩))
theorem wo(ho:ops[i]? = some o)(hw:Region.wanted o (yielded ops a.tmps)=true)(hk:b.kind≠.early)(hgd:o.guard=none){t:TypeId}(hop:o.op=.alloc t){z:Array Value}(hz:(P.info? t).bind (·.zero)=some (.agg z))(hn:∀ ω,Rel S X w ω->MG P S Stop n (fun b=>X b\/b=ω.heap.size) (G (b.at (a.put o.dst (.pointer (some ⟨ω.heap.size,0,none⟩))) (.inRegion ops rest::k)) cs) (ω.alloc (.cells z t))):MG P S Stop (n+1) X (G (b.at a (.inRegion ops (i::rest)::k)) cs) w:=by
 refine CB (Rr:=fun ω a' w'=>a'=a.put o.dst (.pointer (some ⟨ω.heap.size,0,none⟩))/\w'=ω.alloc (.cells z t)) ho hw hk (by rw[hop];rfl) (fun ω θ=>?_) fun ω a' w' θ hr hsz hl=>?_
 .exact bV hgd t hop z hz ⟨rfl,rfl,rfl⟩
 .obtain⟨rfl,rfl⟩:=hr;refine⟨_,⟨hsz,rfl,rfl,rfl,fun b hb _=>?_,fun b h=>.inl h,fun b h=>h.imp id fun eb=>⟨Zj eb.symm,by rw[eb];show _<(ω.heap.push _).size;simp⟩,?_⟩,hn ω θ⟩
  .show(ω.heap.push _)[b]? = _;rw[Qi,if_neg (by omega)]
  .refine pV (fun e he=>(hl e he).1) fun e he=>?_
   have:=(hl e he).2;rw[Cc.YX hop hz] at this;simp at this
theorem wT(ho:ops[i]? = some o)(hw:Region.wanted o (yielded ops a.tmps)=true)(hk:b.kind≠.early)(hgd:o.guard=none){x y:Operand}{ty t:TypeId}(hop:o.op=.store ty x y)(g:Nat)(hx:a.eval x=.pointer (some ⟨g,0,none⟩))(vs:Array Value)(hy:a.eval y=.agg vs)(old:Array Value)(hh:w.heap[g]? = some (.cells old t (0,0)))(hsz:old.size=vs.size)(hi:(P.info? ty).map (·.size)=some vs.size)(h1:∀ u∈vs.toList,u.oneCell'=true)(hg:X g)(hn:∀ ω,Rel S X w ω->MG P S Stop n X (G (b.at (a.put o.dst undef) (.inRegion ops rest::k)) cs) (ω.setRow g vs)):MG P S Stop (n+1) X (G (b.at a (.inRegion ops (i::rest)::k)) cs) w:=by
 have hh':∀ ω,Rel S X w ω->ω.heap[g]? = some (.cells old t (0,0)):=fun ω θ=>(θ.own g hg).trans hh
 refine CB (Rr:=fun ω a' w'=>a'=a.put o.dst undef/\w'=ω.setRow g vs) ho hw hk (by rw[hop];rfl) (fun ω θ=>?_) fun ω a' w' θ hr hsz' hl=>?_
 .exact wpList_store_row hgd ty x y hop g hx vs hy old t (hh' ω θ) hsz hi h1 ⟨rfl,rfl,rfl⟩
 .obtain⟨rfl,rfl⟩:=hr;refine⟨X,⟨hsz',rfl,rfl,rfl,fun b hb hne=>setRow_other _ _ _ _ (fun e=>hne (e ▸ hg)),fun b h=>h,fun b h=>.inl h,?_⟩,hn ω θ⟩;refine pV (fun e he=>(hl e he).1) fun e he=>?_
  have hev:=(hl e he).2;rcases (hl e he).1 with⟨ad,h3,_⟩|⟨r,h3,_⟩|h3
  .exact .inl ⟨ad,h3,by rw[Cc.YV hop g hx vs hy old t ω (hh' ω θ) hsz hi h1 e hev ad h3];exact hg⟩
  all_goals
   obtain⟨i',hi',hs'⟩:=zA.1 hi;simp[execOp,hop,hx,hy,Instr.storeAt,Instr.sureAddr,storeVar,sizeOf,typeInfo,hi',hs',Value.cells] at hev;rcases events_storeCells_at (P:=P) g 0 t vs.toList 0 old ω #[] (hh' ω θ) (by simp;omega) h1 e hev with h|⟨Un,h2,h5⟩
   .simp at h
   .exact .inl ⟨Un,h2,by rw[h5];exact hg⟩
end
section
variable {P:Program}{S X X':Nat->Prop}{Stop:(Nat->Prop)->Goroutine->World->Prop}{b:Frame}{a:Act}{k:List Item}{cs:List Frame}{w:World}{ops:Array Oper}{i:Nat}{rest:List Nat}{o:Oper}{n:Nat}
theorem Zy{a:Act}{o:Oper}{t:TypeId}{x:Operand}(hop:o.op=.load t x){ad:Addr}(hx:a.eval x=.pointer (some ad))(w:World){cs:List Value}{fs:Array Field}(hu:P.underlying t=some (.struct fs))(hi:(P.info? t).map (·.size)=some cs.length)(hc:∀ j v,cs[j]? = some v->w.cell? (ad.add j)=some v):∀ ev∈(execOp a.eval o).events P w #[],∃ Un,ev.loc=.cell Un/\Un.block=ad.block:=by
 intro ev h;simp only[Act.eval,Az] at hx;unfold execOp at h;simp only[hop] at h
 cases hinfo:P.info? t with
 | none=>rw[hinfo] at hi;cases hi
 | some i =>
  rw[hinfo] at hi;simp only[MK,Ba] at hi;simp[go_sem,hx,Instr.loadAt,Instr.sureAddr,isAgg,run_underlying hu,sizeOf,typeInfo,hinfo] at h;obtain⟨Un,h1,_,h2⟩:=(events_loadCellsFrom_at ad (fun b=>b=ad.block) rfl _ 0 _ w #[] (fun j hj=>by
   have hj:j<cs.length:=by omega
   simp only[lU];rw[hc j _ (kM hj)];rfl) ev h).resolve_left (by simp)
  exact⟨Un,h1,h2⟩
theorem Bp(ho:ops[i]? = some o)(hw:Region.wanted o (yielded ops a.tmps)=true)(hk:b.kind≠.early){x:Operand}{t t':TypeId}(hop:o.op=.load t x)(g:Nat)(hx:a.eval x=.pointer (some ⟨g,0,none⟩))(vs:Array Value)(hh:w.heap[g]? = some (.cells vs t' (0,0))){fs:Array Field}(hu:P.underlying t=some (.struct fs))(hi:(P.info? t).map (·.size)=some vs.size)(hg:X g)(hn:MG P S Stop n X (G (b.at (a.put o.dst (.agg vs)) (.inRegion ops rest::k)) cs) w):MG P S Stop (n+1) X (G (b.at a (.inRegion ops (i::rest)::k)) cs) w:=by
 have hcell:∀ ω,Rel S X w ω->∀ j v,vs.toList[j]? = some v->ω.cell? ((⟨g,0,none⟩:Addr).add j)=some v:=fun ω θ j v hj=>by
  rw[Addr.add_lit,lU,cell_of_row _ _ _ _ _ _ ((θ.own g hg).trans hh)];simpa using hj
 refine CB (Rr:=fun ω a' w'=>a'=a.put o.dst (.agg vs)/\w'=ω) ho hw hk (by rw[hop];rfl) (fun ω θ=>?_) fun ω a' w' θ hr hsz hl=>?_
 .have hr:(execOp a.eval o).run P ω=.ok (.value (.agg vs)) ω:=by
   have:=rX (P:=P) (w:=ω) t ⟨g,0,none⟩ vs.toList _ hu rfl (by simpa using hi) (hcell ω θ);rw[qbW] at this;simp[execOp,hop,hx,Instr.loadAt,Instr.sureAddr,this,Result.andThen]
  unfold wpList;rw[if_pos hw];refine .inl ?_;unfold Oper.wp;rw[hr];exact⟨rfl,rfl,rfl⟩
 .obtain⟨rfl,rfl⟩:=hr;refine⟨X,⟨hsz,rfl,rfl,rfl,fun _ _ _=>rfl,fun _ h=>h,fun _ h=>.inl h,pV (fun e he=>(hl e he).1) fun e he=>?_⟩,hn.rely θ⟩;obtain⟨Un,h2,h3⟩:=Zy hop hx w' (cs:=vs.toList) hu (by simpa using hi) (hcell w' θ) e (hl e he).2;exact .inl ⟨Un,h2,by rw[h3];exact hg⟩
theorem tZ(ho:ops[i]? = some o)(hw:Region.wanted o (yielded ops a.tmps)=true)(hk:b.kind≠.early)(hgd:o.guard=none){x:Operand}{t e:TypeId}{z:Array Value}(hop:o.op=.buildSlice t 1 #[(0,x)])(ht:P.underlying t=some (.slice e))(vs:Array Value)(hi:(P.info? e).map (fun i=>(i.zero,i.size))=some (some (.agg z),vs.size))(hzs:z.size=vs.size)(hpos:0<vs.size)(hlim:vs.size<=16777216)(hx:a.eval x=.agg vs)(hn:∀ ω,Rel S X w ω->MG P S Stop n (fun b=>X b\/b=ω.heap.size) (G (b.at (a.put o.dst (.slice (some ⟨ω.heap.size,0,none⟩) 1 1)) (.inRegion ops rest::k)) cs) (ω.alloc (.cells vs e))):MG P S Stop (n+1) X (G (b.at a (.inRegion ops (i::rest)::k)) cs) w:=by
 refine CB (Rr:=fun ω a' w'=>a'=a.put o.dst (.slice (some ⟨ω.heap.size,0,none⟩) 1 1)/\w'=ω.alloc (.cells vs e)) ho hw hk (by rw[hop];rfl) (fun ω θ=>?_) fun ω a' w' θ hr hsz hl=>?_
 .exact zo hgd t x hop ht vs hi hzs hpos hlim hx ⟨rfl,rfl,rfl⟩
 .obtain⟨rfl,rfl⟩:=hr;refine⟨_,⟨hsz,rfl,rfl,rfl,fun b hb _=>?_,fun b h=>.inl h,fun b h=>h.imp id fun eb=>⟨Zj eb.symm,by rw[eb];show _<(ω.heap.push _).size;simp⟩,?_⟩,hn ω θ⟩
  .show(ω.heap.push _)[b]? = _;rw[Qi,if_neg (by omega)]
  .refine pV (fun e he=>(hl e he).1) fun e he=>?_
   have:=(hl e he).2;rw[Cc.ad7 hop ht vs hi hpos hlim hx] at this;simp at this
theorem Xg{w:World}(ty:TypeId)(t:TypeId)(base:Nat)(e:TypeId)(z:Value)(sz bytes:Nat)(ht:P.underlying t=some (.slice e))(hi:(P.info? e).map (fun i=>(i.zero,i.size,i.bytes))=some (some z,sz,bytes))(hzs:z.cells.size=sz)(hsz:0<sz)(hb0:0<bytes){a1:Option Addr}{n c1:Nat}{xs:List Value}(hown:w.ownsRow base e sz (.slice a1 n c1) n xs){ad:Addr}{m c2:Nat}{news:List Value}(hl:news.length=m*sz)(hnews:∀ j u,news[j]? = some u->w.cell? (ad.add j)=some u)(h1:∀ u∈news,u.oneCell'=true)(hbytes:(n+m)*bytes<=140737488355328)(hbase:base<=w.heap.size):∃ a' c' w',(Builtin.append_ #[t,t] ty #[.slice a1 n c1,.slice (some ad) m c2]).run P w=.ok (.slice a' (n+m) c') w'/\w'.ownsRow base e sz (.slice a' (n+m) c') (n+m) (xs++news)/\w.grownBy w' (Value.slice a1 n c1).ownBlock /\
   ∀ g,(Value.slice a' (n+m) c').ownBlock=some g->(Value.slice a1 n c1).ownBlock=some g\/w.heap.size<=g:=by
 obtain⟨i,hi',hz0,hz1,hz2⟩:=info_parts hi;have hle:n+m<=(n+m)*bytes:=qca _ hb0;obtain⟨v',w',h,h2,h3⟩:=run_append_own (P:=P) w base t ty e i z sz bytes ht hi' hz0 hz1 hz2 hzs hsz _ n xs hown ad m c2 news hl hnews h1 (by unfold maxLen;omega) hbytes hbase;obtain⟨a',c',rfl⟩:=yT h2;refine⟨a',c',w',h,h2,h3.1,fun g hg=>?_⟩;have hown2:=hown.2;rcases hown2 with⟨he,hn0⟩|⟨g0,cap,cur,he,hbg,hgc,hnc,hcm,hcs,htake⟩
 .cases he
  have hx:xs=[]:=O8 (by simpa using hown.1);subst hx;obtain⟨v2,w2,k,k2,_⟩:=run_append_own (P:=P) w w.heap.size t ty e i z sz bytes ht hi' hz0 hz1 hz2 hzs hsz _ 0 [] (World.ownsRow_nil w w.heap.size e sz) ad m c2 news hl hnews h1 (by unfold maxLen;omega) hbytes (aY _);rw[h] at k
  cases k
  exact .inr ((k2.lt g hg).1)
 .cases he
  subst hz1 hz2;by_cases hroom:n+m<=c1
  .have hfit:n*i.size+news.length<=cur.size:=by rw[hl,hcs,<-qcu];exact qbX _ hroom
   have k:=run_append_room (P:=P) w t ty e i ht hi' g0 n c1 cur hgc ad m c2 news hl hnews h1 hroom hfit;rw[h] at k
   cases k
   exact .inl hg
  .have holds:∀ j u,xs[j]? = some u->w.cell? ((⟨g0,0,none⟩:Addr).add j)=some u:=hown.cells (g:=g0) rfl
   have k:=run_append_grow (P:=P) w t ty e i z ht hi' hz0 ⟨g0,0,none⟩ n c1 xs hown.1 holds ad m c2 news hl hnews (by omega) (by omega) (growslice_fits (by omega) hbytes);rw[h] at k
   cases k
   simp only[Value.ownBlock,Ba] at hg;exact .inr (by omega)
theorem QI{n0:Nat}{e:TypeId}{sz m:Nat}{v:Value}{xs:List Value}(h:w.ownsRow n0 e sz v m xs)(hX:∀ b,v.ownBlock=some b->X b){ω:World}(θ:Rel S X w ω):ω.ownsRow n0 e sz v m xs:=by
 obtain⟨h1,h2⟩:=h;refine⟨h1,?_⟩;rcases h2 with h2|⟨g,cap,cur,hv,hg,hh,r⟩
 .exact Or.inl h2
 .exact Or.inr ⟨g,cap,cur,hv,hg,(θ.own g (hX g (by rw[hv];rfl))).trans hh,r⟩
theorem IL{n0:Nat}(ho:ops[i]? = some o)(hw:Region.wanted o (yielded ops a.tmps)=true)(hk:b.kind≠.early)(hgd:o.guard=none){s x:Operand}{t:TypeId}(hop:o.op=.call {callee:=.builtin .append,args:=#[s,x],argTypes:=#[t,t]})(e:TypeId)(z:Value)(sz bytes:Nat)(ht:P.underlying t=some (.slice e))(hi:(P.info? e).map (fun i=>(i.zero,i.size,i.bytes))=some (some z,sz,bytes))(hzs:z.cells.size=sz)(hsz:0<sz)(hb0:0<bytes){a1:Option Addr}{m c1:Nat}{xs:List Value}(hs:a.eval s=.slice a1 m c1)(hown:w.ownsRow n0 e sz (.slice a1 m c1) m xs)(hX:∀ b,(Value.slice a1 m c1).ownBlock=some b->X b){A:Addr}{m2 c2:Nat}{news:List Value}(hx:a.eval x=.slice (some A) m2 c2)(hA:X A.block)(hsrc:wh w sz (some A) m2 c2 news)(h1:∀ u∈news,u.oneCell'=true)(hbytes:(m+m2)*bytes<=140737488355328)(Ud:n0<=w.heap.size)(hn:∀ ω a' c' w' X',Rel S X w ω->w'.ownsRow n0 e sz (.slice a' (m+m2) c') (m+m2) (xs++news)->(∀ b,(Value.slice a' (m+m2) c').ownBlock=some b->X' b)->(∀ b,X b->X' b)->ω.heap.size<=w'.heap.size->MG P S Stop n X' (G (b.at (a.put o.dst (.slice a' (m+m2) c')) (.inRegion ops rest::k)) cs) w'):MG P S Stop (n+1) X (G (b.at a (.inRegion ops (i::rest)::k)) cs) w:=by
 have hown':∀ ω,Rel S X w ω->ω.ownsRow n0 e sz (.slice a1 m c1) m xs:=fun ω θ=>QI hown hX θ
 have hcell:∀ ω,Rel S X w ω->∀ j u,news[j]? = some u->ω.cell? (A.add j)=some u:=fun ω θ j u hj=>by
  obtain⟨y,hy,hv⟩:=hsrc.2.2.2.1 j u hj
  cases hy
  rw[World.cell?_of_block (w:=w) (θ.own _ (by rw[addBlock];exact hA))];exact hv
 have hsrc':∀ ω,Rel S X w ω->wh ω sz (some A) m2 c2 news:=fun ω θ=>⟨hsrc.1,hsrc.2.1,hsrc.2.2.1,fun j u hj=>⟨A,rfl,hcell ω θ j u hj⟩,hsrc.2.2.2.2⟩
 have hok:Cc.bT P [] o.op=true:=by rw[hop];rfl
 refine CB (Rr:=fun ω a' w'=>∃ x' c',a'=a.put o.dst (.slice x' (m+m2) c')/\w'.ownsRow n0 e sz (.slice x' (m+m2) c') (m+m2) (xs++news)/\ω.grownBy w' (Value.slice a1 m c1).ownBlock/\∀ g,(Value.slice x' (m+m2) c').ownBlock=some g->(Value.slice a1 m c1).ownBlock=some g\/ω.heap.size<=g) ho hw hk hok (fun ω θ=>?_) fun ω a' w' θ hr hsz' hl=>?_
 .obtain⟨a',c',w',k1,k2,k3,k4⟩:=Xg o.type t n0 e z sz bytes ht hi hzs hsz hb0 (hown' ω θ) hsrc.1 (hcell ω θ) h1 (c2:=c2) hbytes (tT Ud θ.size);unfold wpList;rw[if_pos hw];refine .inl ?_;unfold Oper.wp;simp[execOp,hop,resolve,invoke,builtin,hs,hx,k1,Result.andThen];exact⟨rfl,a',c',rfl,k2,k3,k4⟩
 .obtain⟨x',c',rfl,g1,g2,g3⟩:=hr;refine⟨fun b=>X b\/(ω.heap.size<=b/\b<w'.heap.size),⟨hsz',g2.os,g2.output,g2.tape,fun b hb hne=>?_,fun b h=>.inl h,fun b h=>h,?_⟩,hn ω x' c' w' _ θ g1 (fun g hg=>?_) (fun b h=>.inl h) hsz'⟩
  .exact g2.block b hb fun e=>hne (hX b e.symm)
  .refine pV (fun e he=>(hl e he).1) fun ev hev=>?_
   have hle:m+m2<=(m+m2)*bytes:=qca _ hb0;obtain⟨i',hi',hz0,hz1,hz2⟩:=info_parts hi;have afS:=(hl ev hev).2;simp[execOp,hop,resolve,invoke,builtin,hs,hx] at afS;rcases events_append_where (P:=P) ω n0 t o.type e i' z sz bytes ht hi' hz0 hz1 hz2 _ m xs (hown' ω θ) A m2 c2 news hsrc.1 (hcell ω θ) h1 (by unfold maxLen;omega) hbytes ev afS with⟨Un,h2,h3|h3⟩|⟨mk,h2,_⟩
   .exact .inl ⟨Un,h2,.inl (by rw[h3.2];exact hA)⟩
   .exact .inl ⟨Un,h2,.inl (hX _ h3.symm)⟩
   .exact .inr ⟨mk,h2⟩
  .have hlt:=(g1.lt g hg).2;rcases g3 g hg with h|h
   .exact .inl (hX g h)
   .exact .inr ⟨h,hlt⟩
end
end Sr
end
section
open Go.Conc
namespace Sr
def LI:List FuncId:=[40,38,52,54,69,72,73,86,87,91,109,110,112,113,114,115,116,117,127,128,129,131,142,143,144,145,146,147,148,149,150,151,152,162,163,164,165,166,171,173,178,179,180,181,182,183,184,185,186,187,188,189,190,191,192,193,194,195,196,197,198,200,201,202,203,206,209,210,211,212,213,214,216,217,218,219,220,221,222,223,224,225,226,228,229,231,232,233,234,235,238,239,240,241,242,243,244,245,246,247,248,249,250,252,253,254,255,256,258,259]
def LB:List FuncId:=[161,215,227,257]
def LM:List FuncId:=[2*311+1000000000]
def LW:List FuncId:=LI++(LB++LM)
theorem af0:abj qp0 LW (tk qp0 LW.contains)=true:=by kernel_rfl
theorem abV:fnB qp0 LI=true:=by kernel_rfl
def LU:List FuncId:=[74,75,76,111]
def LO:List FuncId:=LU++LW
theorem af4:abj qp0 LO (fun _=>true)=true:=by kernel_rfl
theorem aeL:fnB qp0 LU=true:=by kernel_rfl
theorem few:qp0.funcs.size<=1000000000:=Nat.le_of_ble_eq_true (by kernel_rfl)
theorem BA{f:FuncId}{fn:Func}(hfn:qp0.funcs[f]? = some fn):∀ t:Nat,f=2*t+1000000000->∃ e,qp0.underlying t=some (.pointer e):=fun t e=>by
 have h1:f<qp0.funcs.size:=(fT.1 hfn).1;have:=few;subst e;have h1:2*t+1000000000<qp0.funcs.size:=h1;omega
theorem XV(b:Nat):fK qp0 (2*b+1000000001):=⟨.inl (MW (tT few (by show 1000000000<=2*b+1000000001;omega))),fun t e=>by
 have e:2*b+1000000001=2*t+1000000000:=e;omega⟩
theorem abU:∀ f∈LB++LM,fK qp0 f:=by
 intro f hf;simp only[LB,LM,NJ,yG,rD,xS,or_false] at hf;rcases hf with rfl|rfl|rfl|rfl|rfl
 .exact⟨.inr ⟨_,func161,by decide,.inr ⟨rfl,rfl,.inl rfl⟩⟩,BA func161⟩
 .exact⟨.inr ⟨_,func215,by decide,.inr ⟨rfl,rfl,.inl rfl⟩⟩,BA func215⟩
 .exact⟨.inr ⟨_,func227,by decide,.inr ⟨rfl,rfl,.inr rfl⟩⟩,BA func227⟩
 .exact⟨.inr ⟨_,func257,by decide,.inr ⟨rfl,rfl,.inr rfl⟩⟩,BA func257⟩
 .refine⟨.inl (MW (tT few (by decide))),fun t e=>?_⟩;have:t=311:=by
   have e:2*311+1000000000=2*t+1000000000:=e;omega
  subst this;exact⟨_,underlying311⟩
def dW(e:Nat×Nat)(f:FuncId):Bool:=LW.contains f||(f==2*e.1+1000000001)||(f==2*e.2+1000000001)
def iM(e:Nat×Nat)(f:FuncId):Bool:=LO.contains f||(f==2*e.1+1000000001)||(f==2*e.2+1000000001)
section
variable (e:Nat×Nat)
theorem Nk{f:FuncId}(h:LW.contains f=true):dW e f=true:=by unfold dW;rw[h];rfl
theorem adM{f:FuncId}(h:LO.contains f=true):iM e f=true:=by unfold iM;rw[h];rfl
theorem Ws(t:Nat)(h:dW e (2*t+1000000000)=true):LW.contains (2*t+1000000000)=true:=by
 unfold dW at h;simp only[Yb,beq_iff_eq] at h;rcases h with(h|h)|h
 .exact h
 .have h:2*t+1000000000=2*e.1+1000000001:=h;omega
 .have h:2*t+1000000000=2*e.2+1000000001:=h;omega
theorem Vy(t:Nat)(h:iM e (2*t+1000000000)=true):dW e (2*t+1000000000)=true:=by
 unfold iM at h;simp only[Yb,beq_iff_eq] at h;rcases h with(h|h)|h
 .refine Nk e ?_;have h:(2*t+1000000000)∈LO:=by simpa using h
  rcases UY.1 h with h|h
  .exfalso;simp only[LU,rD,xS,or_false] at h;rcases h with h|h|h|h <;> (have h:2*t+1000000000=_:=h;omega)
  .simpa using h
 .have h:2*t+1000000000=2*e.1+1000000001:=h;omega
 .have h:2*t+1000000000=2*e.2+1000000001:=h;omega
theorem Rc:∀ f,dW e f=true->iM e f=true:=by
 intro f h;unfold dW at h;unfold iM;simp only[Yb] at h ⊢;rcases h with(h|h)|h
 .refine .inl (.inl ?_);have h:f∈LW:=by simpa using h
  have:f∈LO:=List.mem_append_right _ h;simpa using this
 .exact .inl (.inr h)
 .exact .inr h
theorem Bb{f:FuncId}{l:List FuncId}(h:(l.contains f||(f==2*e.1+1000000001)||(f==2*e.2+1000000001))=true):l.contains f=true\/∃ b,f=2*b+1000000001:=by
 simp only[Yb,beq_iff_eq] at h;rcases h with(h|h)|h
 .exact .inl h
 .exact .inr ⟨_,h⟩
 .exact .inr ⟨_,h⟩
theorem VU{b:Nat}{fn:Func}(h:qp0.funcs[2*b+1000000001]? = some fn):False:=by
 have h1:2*b+1000000001<qp0.funcs.size:=(fT.1 h).1;have:=few;omega
theorem aew{t:Nat}(h:LW.contains (2*t+1000000000)=false):iM e (2*t+1000000000)=false:=by
 cases hx:iM e (2*t+1000000000) with
 | false=>rfl
 | true=>have:=Ws e t (Vy e t hx);rw[h] at this;cases this
noncomputable def kW:Op->Bool:=tk qp0 LW.contains
theorem ae3:Tk qp0 (dW e) kW:=afG _ LW.contains (dW e) fun o h=>Gz (L:=LW.contains) (L':=dW e) (fun f hf=>Nk (f:=f) e hf) (Ws e) h
theorem aeo:vB qp0 (dW e) kW:=by
 intro f hf fn c hfn hb;rcases Bb e hf with h|⟨b,rfl⟩
 .exact jQ (L:=LW.contains) (L':=dW e) (fun f hf=>Nk (f:=f) e hf) (VB af0 f h fn c hfn hb)
 .exact(VU hfn).elim
theorem adH:∀ f,dW e f=true->fK qp0 f:=by
 intro f hf;rcases Bb e hf with h|⟨b,rfl⟩
 .exact Jw few abV abU f h
 .exact XV b
theorem ae2:vB qp0 (iM e) (fun _=>true):=by
 intro f hf fn c hfn hb;rcases Bb e hf with h|⟨b,rfl⟩
 .exact jQ (L:=LO.contains) (L':=iM e) (fun f hf=>adM (f:=f) e hf) (VB af4 f h fn c hfn hb)
 .exact(VU hfn).elim
theorem ac4:∀ f,iM e f=true->fK qp0 f:=by
 intro f hf;rcases Bb e hf with h|⟨b,rfl⟩
 .refine Jw few aeL (fun f hf=>?_) f h;exact Jw few abV abU f (by simpa[LW] using hf)
 .exact XV b
end
end Sr
end
def eX(c:UInt8):Bool:=decide (48<=c.toNat/\c.toNat<=55)
theorem kN(c:UInt8):eX c=true↔48<=c.toNat/\c.toNat<=55:=by simp[eX]
def bK(v:Nat)(l:List UInt8):Nat:=l.foldl (fun v c=>v*8+(c.toNat - 48)) v
theorem lW(v:Nat)(c:UInt8)(l:List UInt8):bK v (c::l)=bK (v*8+(c.toNat - 48)) l:=by simp only[bK,Xu]
theorem kQ(v:Nat):bK v []=v:=by simp only[bK,List.foldl_nil]
theorem BS(v:Nat)(a b:List UInt8):bK v (a++b)=bK (bK v a) b:=by simp[bK,qbd]
theorem Pb(v:Nat)(a:List UInt8)(c:UInt8):bK v (a++[c])=bK v a*8+(c.toNat - 48):=by rw[BS,lW,kQ]
theorem qp:∀ (l:List UInt8)(v:Nat),bK v l=v*8^l.length+bK 0 l
 | [],v=>by rw[kQ,kQ];simp
 | c::l,v=>by
  rw[lW,lW,qp l (v*8+(c.toNat - 48)),qp l (0*8+(c.toNat - 48)),oH,qbN];have e:(v*8+(c.toNat - 48))*8^l.length=v*(8^l.length*8)+(c.toNat - 48)*8^l.length:=by
   rw[qcu,Nat.mul_assoc,Nat.mul_comm 8 (8^l.length)]
  rw[e];simp only[Nat.zero_mul,lU];omega
theorem SF(l:List UInt8)(v:Nat):v<=bK v l:=by
 rw[qp];have h1:1<=8^l.length:=Nat.one_le_pow _ _ (by decide);have h2:=Nat.mul_le_mul_left v h1;omega
theorem Cw(l:List UInt8)(k:Nat):bK 0 (l.take k)<=bK 0 l:=by
 have h:=BS 0 (l.take k) (l.drop k);rw[qbh] at h;rw[h];exact SF _ _
theorem wM:∀ (l:List UInt8),bK 0 (l.dropWhile (·==48))=bK 0 l
 | []=>rfl
 | c::l=>by
  by_cases h:c=48
  .subst h;rw[qaY (by rfl),wM l,lW];rfl
  .rw[qaT (by simpa using h)]
theorem KR(l:List UInt8)(k:Nat)(h:k<l.length):bK 0 (l.take (k+1))=bK 0 (l.take k)*8+((l.getD k 0).toNat - 48):=by
 have hg:l.getD k 0=l[k]:=by simp[List.getD,kM h]
 rw[Nh h,Pb,hg]
theorem X6(l:List UInt8)(k:Nat)(h:k<l.length)(ha:l.all eX=true):48<=(l.getD k 0).toNat/\(l.getD k 0).toNat<=55:=by
 have hg:l.getD k 0=l[k]:=by simp[List.getD,kM h]
 rw[hg,<-kN];exact(Ej.1 ha) l[k] (VE h)
def dx(v:Int)(l:List UInt8):Int:=l.foldl (fun v b=>v*256+(b.toNat:Int)) v
theorem jf(v:Int):dx v []=v:=by simp only[dx,List.foldl_nil]
theorem jF(v:Int)(c:UInt8)(l:List UInt8):dx v (c::l)=dx (v*256+(c.toNat:Int)) l:=by simp only[dx,Xu]
theorem BZ(v:Int)(a b:List UInt8):dx v (a++b)=dx (dx v a) b:=by simp[dx,qbd]
theorem zX(v:Int)(l:List UInt8)(k:Nat)(h:k<l.length):dx v (l.take (k+1))=dx v (l.take k)*256+((l.getD k 0).toNat:Int):=by
 have hg:l.getD k 0=l[k]:=by simp[List.getD,kM h]
 rw[Nh h,BZ,jF,jf,hg]
theorem qA:∀ (l:List UInt8)(v:Int),dx v l=v*256^l.length+dx 0 l
 | [],v=>by rw[jf,jf];simp
 | c::l,v=>by
  rw[jF,jF,qA l (v*256+(c.toNat:Int)),qA l (0*256+(c.toNat:Int)),oH,Int.pow_succ];have e:(v*256+(c.toNat:Int))*256^l.length=v*(256^l.length*256)+(c.toNat:Int)*256^l.length:=by
   rw[Int.add_mul,Int.mul_assoc,Int.mul_comm 256 (256^l.length)]
  rw[e];simp only[Int.zero_mul,Int.zero_add];omega
theorem Hg:∀ (l:List UInt8)(v K:Int),0<=K->K<=v->K<=dx v l
 | [],v,K,_,h=>by rw[jf];exact h
 | c::l,v,K,h0,h=>by
  rw[jF];have hc:=sD c;exact Hg l _ K h0 (by omega)
theorem Ho:∀ (l:List UInt8)(v K:Int),K<=-1->v<=K->dx v l<=K
 | [],v,K,_,h=>by rw[jf];exact h
 | c::l,v,K,h0,h=>by
  rw[jF];have hc:=sD c;exact Ho l _ K h0 (by omega)
def iF(v:Int):Bool:=decide (-9223372036854775808<=v/\v<=9223372036854775807)
theorem gM(v:Int):iF v=true↔-9223372036854775808<=v/\v<=9223372036854775807:=by simp[iF]
theorem Wi(v:Int):iF v=false↔v < -9223372036854775808\/9223372036854775807<v:=by
 rw[<-qcg,gM];omega
theorem Qd(v:Int)(l:List UInt8)(k:Nat)(h:k<l.length)(ho:dx v (l.take k) < -36028797018963968\/36028797018963967<dx v (l.take k)):iF (dx v l)=false:=by
 have e:dx v l=dx (dx v (l.take (k+1))) (l.drop (k+1)):=by rw[<-BZ,qbh]
 have hc:=sD (l.getD k 0);rw[e,zX v l k h,Wi];generalize dx v (l.take k)=p at *
 rcases ho with ho|ho
 .left
  have:=Ho (l.drop (k+1)) (p*256+((l.getD k 0).toNat:Int)) (-9223372036854775809) (by omega) (by omega);omega
 .right
  have:=Hg (l.drop (k+1)) (p*256+((l.getD k 0).toNat:Int)) 9223372036854775808 (by omega) (by omega);omega
def iK(c:UInt8):Int:=if 192<=c.toNat then(c.toNat:Int) - 256 else(c.toNat:Int) - 128
def Plain.mW:List UInt8->Int×Int
 | []=>(0,10)
 | c::r=>if c.toNat<128 then(0,10) else if iF (dx (iK c) r)=true then(dx (iK c) r,0) else(0,11)
theorem Plain.Mw(l:List UInt8)(h:l=[]\/(l.getD 0 0).toNat<128):Plain.mW l=(0,10):=by
 cases l with
 | nil=>rfl
 | cons c r =>
  rcases h with h|h
  .cases h
  .exact if_pos h
theorem Plain.OU(l:List UInt8)(h:0<l.length)(h1:¬ (l.getD 0 0).toNat<128):Plain.mW l=if iF (dx (iK (l.getD 0 0)) (l.drop 1))=true then(dx (iK (l.getD 0 0)) (l.drop 1),0) else(0,11):=by
 cases l with
 | nil=>simp at h
 | cons c r=>exact if_neg h1
def iX(f:Nat->UInt8):Nat->List UInt8
 | 0=>[]
 | n+1=>f n::iX f n
theorem oM(f:Nat->UInt8):iX f 0=[]:=rfl
theorem cO(f:Nat->UInt8)(n:Nat):iX f (n+1)=f n::iX f n:=rfl
theorem cu(f:Nat->UInt8):∀ n,(iX f n).length=n
 | 0=>rfl
 | n+1=>by rw[cO,oH,cu f n]
theorem Aw(f:Nat->UInt8):∀ (n i:Nat),i<n->(iX f n).getD i 0=f (n - 1-i)
 | 0,i,h=>absurd h (qbq i)
 | n+1,0,_=>by rw[cO];rfl
 | n+1,i+1,h=>by
  have ih:=Aw f n i (by omega);rw[cO,show n+1 - 1-(i+1)=n - 1-i by omega,<-ih];simp[List.getD]
def jM(z:UInt8)(f:Nat->UInt8)(n k:Nat)(tail:List UInt8):List UInt8:=List.replicate (n-k) z++iX f k++tail
theorem Jf(z:UInt8)(f:Nat->UInt8)(n:Nat)(tail:List UInt8):jM z f n 0 tail=List.replicate n z++tail:=by
 unfold jM;rw[oM,Nat.sub_zero,Qq]
theorem Me(z:UInt8)(f:Nat->UInt8)(n k:Nat)(tail:List UInt8)(h:k<=n):(jM z f n k tail).length=n+tail.length:=by
 unfold jM;rw[vG,vG,Xm,cu];omega
theorem K5(z:UInt8)(f:Nat->UInt8)(n k:Nat)(tail:List UInt8)(h:k<n):(jM z f n k tail).set (n - 1-k) (f k)=jM z f n (k+1) tail:=by
 unfold jM;have e:n-k=(n-(k+1))+1:=by omega
 rw[e,List.replicate_succ',cO,qbI,qbI,qbI,qck _ _ (by rw[Xm];omega),Xm,show n - 1-k-(n-(k+1))=0 by omega];rfl
theorem Js(z:UInt8)(f:Nat->UInt8)(n k:Nat)(tail:List UInt8):(jM z f n k tail).drop (n-k)=iX f k++tail:=by
 unfold jM;rw[qbI,List.drop_append_of_le_length (by rw[Xm];exact aY _),qa9 (by rw[Xm];exact aY _),yG]
def iQ(v:Nat)(j:Nat):UInt8:=UInt8.ofNat (48+v / 8^j%8)
theorem EK(v j:Nat):(iQ v j).toNat=48+v / 8^j%8:=by
 unfold iQ;rw[qbR];have:=qcz (v / 8^j) (show 0<8 by decide);omega
theorem vU(v j:Nat):eX (iQ v j)=true:=by
 rw[kN,EK];have:=qcz (v / 8^j) (show 0<8 by decide);omega
theorem Kv(v j:Nat)(h:v<8^j):iQ v j=48:=by
 unfold iQ;rw[Nat.div_eq_of_lt h];rfl
def bf(v n:Nat):List UInt8:=iX (iQ v) n
theorem C8(v:Nat):∀ n,(bf v n).all eX=true
 | 0=>rfl
 | n+1=>by
  have ih:=C8 v n;unfold bf at *
  rw[cO,JJ,vU,ih];rfl
theorem Ed(v:Nat):∀ n,bK 0 (bf v n)=v%8^n
 | 0=>by unfold bf;rw[oM,kQ,Nat.pow_zero,Nat.mod_one]
 | n+1=>by
  have ih:=Ed v n;unfold bf at *
  rw[cO,lW,qp,ih,cu,EK,qbN,Nat.mod_mul,Nat.zero_mul,lU,show 48+v / 8^n%8 - 48=v / 8^n%8 by omega,Nat.mul_comm,Nat.add_comm]
theorem BG(v d:Nat)(h:v<8^d):∀ k,bf v (d+k)=List.replicate k 48++bf v d
 | 0=>by rw[R4,List.replicate_zero,yG]
 | k+1=>by
  have ih:=BG v d h k;unfold bf at *
  have hk:v<8^(d+k):=CW h (qcr (by decide) (by omega));rw[<-Zu,cO,Kv v _ hk,ih,List.replicate_succ,NJ]
def qL(v:Nat):Nat:=if v<8 then 1 else qL (v / 8)+1
theorem aap(v:Nat):1<=qL v:=by unfold qL;split <;> omega
theorem KL:∀ v,v<8^qL v:=by
 intro v
 induction v using Nat.strongRecOn with
 | ind v ih =>
  unfold qL;by_cases h:v<8
  .rw[if_pos h];simpa using h
  .rw[if_neg h,qbN];have:=ih (v / 8) (by omega);omega
theorem Ww:∀ v n,1<=n->v<8^n->qL v<=n:=by
 intro v
 induction v using Nat.strongRecOn with
 | ind v ih =>
  intro n hn h;unfold qL;by_cases h8:v<8
  .rw[if_pos h8];exact hn
  .rw[if_neg h8];obtain⟨m,rfl⟩:∃ m,n=m+1:=⟨n - 1,by omega⟩
   have hm:1<=m:=by
    rcases UZ m with h0|h0
    .subst h0;simp at h;omega
    .exact h0
   rw[qbN] at h;have:=ih (v / 8) (by omega) m hm (by omega);omega
theorem Rj(v n:Nat)(hn:1<=n):qL v<=n↔v<8^n :=⟨fun h=>CW (KL v) (qcr (by decide) h),Ww v n hn⟩
def mO(v:Int)(j:Nat):UInt8:=UInt8.ofNat (v / 256^j%256).toNat
theorem Al(v:Int)(j:Nat):((mO v j).toNat:Int)=v / 256^j%256:=by
 unfold mO;have h1:=Int.emod_nonneg (v / 256^j) (show(256:Int)≠0 by decide);have h2:=Int.emod_lt_of_pos (v / 256^j) (show(0:Int)<256 by decide);rw[qbR];omega
def kD(v:Int)(n:Nat):List UInt8:=iX (mO v) n
theorem Cr(v:Int)(n:Nat):(kD v n).length=n:=cu _ n
theorem ES(v:Int):∀ n,dx 0 (kD v n)=v%256^n
 | 0=>by unfold kD;rw[oM,jf,Int.pow_zero,Int.emod_one]
 | n+1=>by
  have ih:=ES v n;unfold kD at *
  rw[cO,jF,qA,ih,cu,Al,Int.zero_mul,Int.zero_add,Int.pow_succ];have hp:(0:Int)<256^n:=Int.pow_pos (by decide);generalize (256:Int)^n=p at *
  have e1:=qcl v p;have e2:=qcl (v / p) 256;have e3:v / (p*256)=v / p / 256:=by rw[Int.ediv_ediv_of_nonneg (by omega)]
  have e4:=qcl v (p*256);rw[e3] at e4;have e5:p*(v / p)=p*(v / p%256)+p*256*(v / p / 256):=by
   rw[Int.mul_assoc,<-Int.mul_add,e2]
  rw[Int.mul_comm (v / p%256) p];omega
def gX(b:UInt8):Bool:=b==32||b==0
def dM(l:List UInt8):List UInt8:=(l.reverse.dropWhile gX).reverse
theorem Ry:dM []=[]:=rfl
theorem Rq(t:List UInt8)(c:UInt8)(h:gX c=true):dM (t++[c])=dM t:=by
 unfold dM;rw[qbP,qcc,qcm,qaY h]
theorem G9(t:List UInt8)(c:UInt8)(h:gX c=false):dM (t++[c])=t++[c]:=by
 unfold dM;rw[qbP,qcc,qcm,qaT (by rw[h];exact Bool.false_ne_true)];simp
theorem xX{p:UInt8->Bool}:∀ (l:List UInt8),l.all p=false->l.dropWhile p≠[]
 | [],h=>by simp at h
 | c::l,h=>by
  by_cases hc:p c=true
  .rw[qaY hc];rw[JJ,hc,Bool.true_and] at h;exact xX l h
  .rw[qaT hc];simp
theorem rH{p:UInt8->Bool}:∀ (x y:List UInt8),x.all p=false->(x++y).dropWhile p=x.dropWhile p++y
 | [],_,h=>by simp at h
 | c::x,y,h=>by
  by_cases hc:p c=true
  .rw[NJ,qaY hc,qaY hc];rw[JJ,hc,Bool.true_and] at h;exact rH x y h
  .rw[NJ,qaT hc,qaT hc,NJ]
theorem nM{p:UInt8->Bool}:∀ (x y:List UInt8),x.all p=true->(x++y).dropWhile p=y.dropWhile p
 | [],_,_=>rfl
 | c::x,y,h=>by
  rw[JJ,fE] at h;rw[NJ,qaY h.1,nM x y h.2]
theorem OT(x y:List UInt8)(h:y.all gX=true):dM (x++y)=dM x:=by
 unfold dM;rw[qbP,nM _ _ (by rw[List.all_reverse];exact h)]
theorem Px(x y:List UInt8)(h:y.all gX=false):dM (x++y)=x++dM y:=by
 unfold dM;rw[qbP,rH _ _ (by rw[List.all_reverse];exact h),qbP,qcs]
theorem EM(c:UInt8)(h:eX c=true):gX c=false:=by
 rw[kN] at h;simp only[gX,Bool.or_eq_false_iff,beq_eq_false_iff_ne,ne_eq];refine⟨fun e=>?_,fun e=>?_⟩ <;> subst e <;> simp at h
theorem Us(D:List UInt8)(h:D.all eX=true):dM D=D:=by
 by_cases h0:D=[]
 .subst h0;rfl
 .obtain⟨t,c,rfl⟩:∃ t c,D=t++[c]:=⟨D.dropLast,D.getLast h0,(qbS h0).symm⟩
  have hc:eX c=true:=by
   rw[qcp,fE] at h;simpa using h.2
  exact G9 t c (EM c hc)
def mP(m:List UInt8):List UInt8:=m.takeWhile eX
def dL(m:List UInt8):List UInt8:=m.dropWhile eX
theorem Ap(m:List UInt8):(mP m).all eX=true:=by
 unfold mP
 induction m with
 | nil=>rfl
 | cons c m ih =>
  by_cases h:eX c=true
  .rw[List.takeWhile_cons_of_pos h,JJ,h,ih];rfl
  .rw[List.takeWhile_cons_of_neg h];rfl
theorem zO(m:List UInt8):mP m++dL m=m:=List.takeWhile_append_dropWhile
theorem I8(m:List UInt8):∀ c r,dL m=c::r->eX c=false:=by
 unfold dL
 induction m with
 | nil=>intro c r h;cases h
 | cons d m ih =>
  intro c r h;by_cases hd:eX d=true
  .rw[qaY hd] at h;exact ih c r h
  .rw[qaT hd] at h
   cases h
   simpa using hd
def Plain.octal(l:List UInt8):Int×Int :=
 let m:=l.dropWhile (·==32)
 if (dL m).all gX then
  (if bK 0 (mP m)<=9223372036854775807 then(((bK 0 (mP m):Nat):Int),0) else(0,11))
 else(0,10)
theorem FU(m:List UInt8)(h:(dL m).all gX=true):dM m=mP m:=by
 have e:=OT (mP m) (dL m) h;rw[zO] at e;rw[e,Us _ (Ap m)]
theorem XJ(m:List UInt8)(h:(dL m).all gX=false):(dM m).all eX=false:=by
 have e:=Px (mP m) (dL m) h;rw[zO] at e;rw[e,qcp];have hne:dM (dL m)≠[]:=by
  unfold dM;intro h0;have h1:(dL m).reverse.dropWhile gX=[]:=by simpa using h0
  exact xX _ (by rw[List.all_reverse];exact h) h1
 cases ht:dL m with
 | nil=>rw[ht] at hne;exact absurd Ry hne
 | cons c r =>
  have hc:=I8 m c r ht;have hpre:∃ s,dM (dL m)=c::s:=by
   have hsub:dM (dL m) <+: dL m:=by
    unfold dM;have:=List.dropWhile_suffix (l:=(dL m).reverse) gX;have h2:=List.reverse_prefix.2 this
    rwa [qcs] at h2
   rw[ht] at hsub hne ⊢
   cases hq:dM (c::r) with
   | nil=>exact absurd hq hne
   | cons x s =>
    rw[hq] at hsub;obtain⟨z,hz⟩:=hsub;rw[NJ] at hz;injection hz with h1 _;exact⟨s,by rw[h1]⟩
  obtain⟨s,hs⟩:=hpre;rw[ht] at hs;rw[hs,JJ,hc];simp
def Pj(c:UInt8):UInt8:=if c.toNat<128 then UInt8.ofNat (c.toNat+128) else c
theorem Xp(c:UInt8):(Pj c).toNat=if c.toNat<128 then c.toNat+128 else c.toNat:=by
 unfold Pj;have:=sD c;split
 .rw[qbR];omega
 .rfl
def sM(l:List UInt8):List UInt8:=l.set 0 (Pj (l.getD 0 0))
def kZ(v:Int)(n:Nat):Prop:=-64<=v / 256^(n - 1)/\v / 256^(n - 1)<=63
instance (v:Int)(n:Nat):Decidable (kZ v n):=by unfold kZ;infer_instance
def Plain.fA(v:Int)(n:Int):List UInt8×Int :=
 if n<2\/64<n then([],12) else if v<0 then([],11) else if v.toNat<8^(n.toNat - 1) then(bf v.toNat (n.toNat - 1)++[0],0) else([],11)
def Plain.yS(v:Int)(n:Int):List UInt8×Int :=
 if n<2\/64<n then([],12) else if n<9/\¬ kZ v n.toNat then([],11) else(sM (kD v n.toNat),0)
def Plain.put(v:Int)(n:Int):List UInt8×Int :=
 if (Plain.fA v n).2=0 then Plain.fA v n else Plain.yS v n
def Plain.number(l:List UInt8):Int×Int:=if 0<l.length/\128<=(l.getD 0 0).toNat then Plain.mW l else Plain.octal l
theorem Te(v n:Nat)(hn:1<=n)(hv:v<8^n)(h63:v<=9223372036854775807)(tail:List UInt8)(ht:tail.all gX=true):Plain.octal (bf v n++tail)=((v:Int),0):=by
 have hall:=C8 v n;obtain⟨m,rfl⟩:∃ m,n=m+1:=⟨n - 1,by omega⟩
 have hd:(bf v (m+1)++tail).dropWhile (·==32)=bf v (m+1)++tail:=by
  unfold bf;rw[cO,NJ,qaT];have:=(kN _).1 (vU v m);intro h;rw[beq_iff_eq] at h;rw[h] at this;simp at this
 have htl:dL (bf v (m+1)++tail)=tail:=by
  unfold dL;rw[nM _ _ hall]
  cases tail with
  | nil=>rfl
  | cons c r =>
   rw[JJ,fE] at ht;have:eX c=false:=by
    cases h:eX c with
    | false=>rfl
    | true=>rw[EM c h] at ht;cases ht.1
   exact qaT (by rw[this];exact Bool.false_ne_true)
 have hhd:mP (bf v (m+1)++tail)=bf v (m+1):=by
  have:=zO (bf v (m+1)++tail);rw[htl] at this;exact qb6 this
 unfold Plain.octal;simp only[hd,htl,hhd,ht,if_true,Ed,Nat.mod_eq_of_lt hv,h63]
theorem aaK(v:Int)(m:Nat)(h1:-64<=v / 256^m)(h2:v / 256^m<=63):128<=(Pj (mO v m)).toNat/\iK (Pj (mO v m))=v / 256^m:=by
 have hb:=Al v m;have ht:=Xp (mO v m);generalize mO v m=c at *
 generalize v / 256^m=t at *
 have hc:=sD c;rcases Int.lt_or_le t 0 with h|h
 .have e:t%256=t+256:=by omega
  rw[e] at hb;rw[if_neg (by omega)] at ht;refine⟨by omega,?_⟩;unfold iK;rw[if_pos (by omega)];omega
 .have e:t%256=t:=by omega
  rw[e] at hb;rw[if_pos (by omega)] at ht;refine⟨by omega,?_⟩;unfold iK;rw[if_neg (by omega)];omega
theorem KZ(v:Int)(n:Nat)(hn:1<=n)(hf:kZ v n)(h63:iF v=true):Plain.mW (sM (kD v n))=(v,0)/\0<(sM (kD v n)).length/\128<=((sM (kD v n)).getD 0 0).toNat:=by
 obtain⟨m,rfl⟩:∃ m,n=m+1:=⟨n - 1,by omega⟩
 obtain⟨h1,h2⟩:=hf;rw[Nat.add_sub_cancel] at h1 h2;obtain⟨h3,h4⟩:=aaK v m h1 h2;have e:sM (kD v (m+1))=Pj (mO v m)::kD v m:=by
  unfold sM kD;rw[cO];rfl
 rw[e];refine⟨?_,by simp,h3⟩;show(if _ then _ else _)=_;have hv:dx (iK (Pj (mO v m))) (kD v m)=v:=by
  rw[h4,qA,ES,Cr];have:=Int.mul_ediv_add_emod v (256^m);rw[Int.mul_comm];exact this
 rw[if_neg (by omega),hv,if_pos h63]
theorem R3(v:Int)(n:Nat)(h:9<=n)(h63:iF v=true):kZ v n:=by
 rw[gM] at h63;have hp:(256:Int)^8<=256^(n - 1):=by
  have h1:(256:Nat)^8<=256^(n - 1):=qcr (by decide) (by omega);have h2:(((256:Nat)^8:Nat):Int)<=((256^(n - 1):Nat):Int):=Int.ofNat_le.2 h1;rw[Int.natCast_pow,Int.natCast_pow] at h2;exact h2
 have h8:(256:Int)^8=18446744073709551616:=by rfl
 rw[h8] at hp;unfold kZ;generalize (256:Int)^(n - 1)=p at *
 constructor
 .have:-1<=v / p:=by
   rw[Int.le_ediv_iff_mul_le (by omega)];omega
  omega
 .have:v / p<1:=by
   rw[Int.ediv_lt_iff_lt_mul (by omega)];omega
  omega
theorem sJ(v n:Int):((n<2\/64<n)/\Plain.fA v n=([],12))\/(2<=n/\n<=64/\(v<0\/¬ v.toNat<8^(n.toNat - 1))/\Plain.fA v n=([],11))\/(2<=n/\n<=64/\0<=v/\v.toNat<8^(n.toNat - 1)/\Plain.fA v n=(bf v.toNat (n.toNat - 1)++[0],0)):=by
 unfold Plain.fA;by_cases h1:n<2\/64<n
 .exact .inl ⟨h1,if_pos h1⟩
 .rw[if_neg h1];by_cases h2:v<0
  .exact .inr (.inl ⟨by omega,by omega,.inl h2,if_pos h2⟩)
  .rw[if_neg h2];by_cases h3:v.toNat<8^(n.toNat - 1)
   .exact .inr (.inr ⟨by omega,by omega,by omega,h3,if_pos h3⟩)
   .exact .inr (.inl ⟨by omega,by omega,.inr h3,if_neg h3⟩)
theorem IV(v n:Int):((n<2\/64<n)/\Plain.yS v n=([],12))\/(2<=n/\n<9/\¬ kZ v n.toNat/\Plain.yS v n=([],11))\/(2<=n/\n<=64/\(n<9->kZ v n.toNat)/\Plain.yS v n=(sM (kD v n.toNat),0)):=by
 unfold Plain.yS;by_cases h1:n<2\/64<n
 .exact .inl ⟨h1,if_pos h1⟩
 .rw[if_neg h1];by_cases h3:n<9/\¬ kZ v n.toNat
  .exact .inr (.inl ⟨by omega,h3.1,h3.2,if_pos h3⟩)
  .exact .inr (.inr ⟨by omega,by omega,fun h9=>qba fun hc=>h3 ⟨h9,hc⟩,if_neg h3⟩)
theorem XF(v n:Int)(h63:iF v=true)(h:(Plain.put v n).2=0):Plain.number (Plain.put v n).1=(v,0)/\((Plain.put v n).1.length:Int)=n:=by
 have hI:=h63;rw[gM] at hI;unfold Plain.put at *
 rcases sJ v n with⟨h1,e⟩|⟨h1,h2,h3,e⟩|⟨h1,h2,h3,h4,e⟩
 .have e2:Plain.yS v n=([],12):=if_pos h1;rw[e,if_neg (by decide),e2] at h
  cases h
 .rw[e,if_neg (by decide)] at h ⊢;rcases IV v n with⟨g1,f⟩|⟨g1,g2,g3,f⟩|⟨g1,g2,g3,f⟩
  .omega
  .rw[f] at h;cases h
  .rw[f];have hf:kZ v n.toNat:=by
    by_cases h9:n<9
    .exact g3 h9
    .exact R3 v n.toNat (by omega) h63
   obtain⟨a,b,c⟩:=KZ v n.toNat (by omega) hf h63;refine⟨?_,by simp only[sM,List.length_set,Cr];omega⟩;unfold Plain.number;rw[if_pos ⟨b,c⟩,a]
 .rw[e,if_pos rfl];have hlen:(bf v.toNat (n.toNat - 1)).length=n.toNat - 1:=cu _ _;have hg:(bf v.toNat (n.toNat - 1)++[0]).getD 0 0=iQ v.toNat (n.toNat - 1 - 1):=by
   have:=Aw (iQ v.toNat) (n.toNat - 1) 0 (by omega);rw[Nat.sub_zero] at this;rw[<-this];unfold bf at hlen ⊢;simp[List.getD,qbm,hlen,show 0<n.toNat - 1 by omega]
  have hod:=(kN _).1 (vU v.toNat (n.toNat - 1 - 1));refine⟨?_,by simp only[vG,hlen,qcn];omega⟩;unfold Plain.number;rw[if_neg (by rw[hg];omega),Te v.toNat (n.toNat - 1) (by omega) h4 (by omega) [0] (by decide)];rw[Int.toNat_of_nonneg (by omega)]
def Ju(b:UInt8):Int:=if b.toNat<128 then(b.toNat:Int) else(b.toNat:Int) - 256
theorem V5(b:UInt8):-128<=Ju b/\Ju b<=127:=by unfold Ju;have:=sD b;split <;> omega
def kH(f:UInt8->Int)(l:List UInt8):Int:=l.foldl (fun s b=>s+f b) 0
theorem qG(f:UInt8->Int):∀ (l:List UInt8)(s:Int),l.foldl (fun s b=>s+f b) s=s+kH f l
 | [],s=>by simp[kH]
 | b::l,s=>by
  have e:kH f (b::l)=f b+kH f l:=by
   show(b::l).foldl (fun s b=>s+f b) 0=_;rw[Xu,qG f l (0+f b)];omega
  rw[Xu,qG f l (s+f b),e];omega
theorem xR(f:UInt8->Int):kH f []=0:=rfl
theorem Dj(f:UInt8->Int)(a b:List UInt8):kH f (a++b)=kH f a+kH f b:=by
 show(a++b).foldl (fun s b=>s+f b) 0=_;rw[qbd,qG];rfl
theorem tq(f:UInt8->Int)(c:UInt8)(l:List UInt8):kH f (c::l)=f c+kH f l:=by
 show(c::l).foldl (fun s b=>s+f b) 0=_;rw[Xu,qG];omega
theorem F3(f:UInt8->Int)(l:List UInt8)(k:Nat)(h:k<l.length):kH f (l.take (k+1))=kH f (l.take k)+f (l.getD k 0):=by
 have hg:l.getD k 0=l[k]:=by simp[List.getD,kM h]
 rw[Nh h,Dj,tq,xR,hg];omega
theorem Bn(f:UInt8->Int)(h:∀ b,-256<=f b/\f b<=255):∀ (l:List UInt8),-256*(l.length:Int)<=kH f l/\kH f l<=255*(l.length:Int)
 | []=>by rw[xR];simp
 | c::l=>by
  have ih:=Bn f h l;have:=h c;rw[tq,oH];omega
theorem rG(f:UInt8->Int)(h:∀ b,0<=f b):∀ (l:List UInt8),0<=kH f l
 | []=>by rw[xR];simp
 | c::l=>by
  have ih:=rG f h l;have:=h c;rw[tq];omega
theorem Kt(f:UInt8->Int)(c:UInt8):∀ n:Nat,kH f (List.replicate n c)=n*f c
 | 0=>by simp[xR]
 | n+1=>by
  rw[List.replicate_succ,tq,Kt f c n,Int.natCast_succ,Int.add_mul];omega
def uby(b:UInt8):Int:=(b.toNat:Int)
theorem IK(b:UInt8):0<=uby b/\uby b<=255:=by unfold uby;have:=sD b;omega
def l9(l:List UInt8)(k:Nat):List UInt8:=l.take 148++List.replicate k 32++l.drop (148+k)
def blank(l:List UInt8):List UInt8:=l9 l 8
theorem LJ(l:List UInt8):l9 l 0=l:=by unfold l9;rw[List.replicate_zero,Qq,R4,qbh]
theorem P7(l:List UInt8)(k:Nat)(h:148+k<=l.length):(l9 l k).length=l.length:=by
 unfold l9;rw[vG,vG,Xm,zQ,zW];omega
theorem OM(l:List UInt8)(k:Nat)(h:148+k<l.length):(l9 l k).set (148+k) 32=l9 l (k+1):=by
 have hl:(l.take 148++List.replicate k (32:UInt8)).length=148+k:=by rw[vG,Xm,zQ];omega
 unfold l9;rw[qck _ _ (by omega),hl,Nat.sub_self,qbJ h,dY,List.replicate_succ',show 148+(k+1)=148+k+1 by omega];simp
def Plain.sum(f:UInt8->Int)(l:List UInt8):Int:=kH f (l.take 148)+8*f 32+kH f (l.drop 156)
theorem GD(f:UInt8->Int)(l:List UInt8):kH f (blank l)=Plain.sum f l:=by
 unfold blank l9 Plain.sum;rw[Dj,Dj,Kt];rfl
theorem DI(f:UInt8->Int)(hf:∀ b,-256<=f b/\f b<=255)(l:List UInt8)(k:Nat)(h:k<=512):-200000<=kH f (l.take k)/\kH f (l.take k)<=200000:=by
 have h1:=Bn f hf (l.take k);have l1:(l.take k).length<=512:=by rw[zQ];omega
 omega
theorem DV(b:UInt8):-256<=uby b/\uby b<=255:=by have:=IK b;omega
theorem Xw(b:UInt8):-256<=Ju b/\Ju b<=255:=by have:=V5 b;omega
theorem Np(l:List UInt8)(h:l.length=512):256<=Plain.sum uby l/\Plain.sum uby l<=130560:=by
 have h1:=Bn uby DV (l.take 148);have h2:=Bn uby DV (l.drop 156);have h3:=rG uby (fun b=>(IK b).1) (l.take 148);have h4:=rG uby (fun b=>(IK b).1) (l.drop 156);have l1:(l.take 148).length<=148:=by rw[zQ];omega
 have l2:(l.drop 156).length=356:=by rw[zW];omega
 have h5:uby 32=32:=rfl;unfold Plain.sum;rw[h5];omega
def nO(l:List UInt8):List UInt8:=(l.take 156).drop 148
def Plain.sealed(l:List UInt8):Bool:=decide ((Plain.number (nO l)).2=0/\((Plain.number (nO l)).1=Plain.sum uby l\/(Plain.number (nO l)).1=Plain.sum Ju l))
def Plain.seal(l:List UInt8):List UInt8:=l.take 148++(bf (Plain.sum uby l).toNat 6++[0,32])++l.drop 156
theorem Kc(n:Nat):(bf n 6++[0,32]).length=8:=by rw[vG];unfold bf;rw[cu];rfl
theorem DY(l:List UInt8)(h:l.length=512):(Plain.seal l).length=512:=by
 unfold Plain.seal;rw[vG,vG,Kc,zQ,zW];omega
theorem wJ(a:Option Addr)(n c:Nat)(l:List UInt8)(cv:Int)(w:World)(h:Bs w a n c l):Calls qp0 183 #[.slice a n c,.int .u8 cv] w fun e w'=>e=.returned (.int .i64 (Lib.indexByte l cv.toNat.toUInt8))/\w=w':=by
 cases a with
 | none =>
  obtain⟨rfl,rfl⟩:=h.2.2.2.2 rfl;have:l=[]:=O8 h.len;subst this;exact(Tryz.bytes_IndexByte_nil cv w).mono fun e w' ⟨he,hw⟩=>⟨he,hw.symm⟩
 | some x =>
  have hb:Lib.bytesOf (l.map fun b=>(b.toNat:Int))=l:=by simp[Lib.bytesOf,Function.comp_def]
  refine(Tryz.bytes_IndexByte_at x n c (l.map fun b=>(b.toNat:Int)) cv w (by simpa using h.len) (fun i hi=>?_)).mono fun e w' ⟨he,hw⟩=>⟨by rw[hb] at he;exact he,hw.symm⟩
  have hl:=h.len;have hil:i<l.length:=by omega
  obtain⟨y,hy,hc⟩:=h.2.2.2.1 i (jJ l[i]) (by simp[kM hil])
  cases hy
  rw[hc];simp[List.getD,kM hil,jJ]
namespace Plain
def text(l:List UInt8):List UInt8:=l.takeWhile (fun b=>b != 0)
theorem sU(l:List UInt8):(text l).length<=l.length:=by
 induction l with
 | nil=>simp[text]
 | cons b l ih=>by_cases h:b=0 <;> simp_all [text]
theorem Td(l:List UInt8):l.take (text l).length=text l:=by
 induction l with
 | nil=>simp[text]
 | cons b l ih=>by_cases h:b=0 <;> simp_all [text]
theorem RZ(b:UInt8)(l:List UInt8)(hb:¬ b=0):text (b::l)=b::text l:=by simp[text,hb]
theorem SH(b:UInt8)(l:List UInt8)(hb:b=0):text (b::l)=[]:=by simp[text,hb]
theorem BM(l:List UInt8):Lib.indexByte l 0=if (text l).length=l.length then -1 else((text l).length:Int):=by
 induction l with
 | nil=>simp[text,Lib.indexByte]
 | cons b l ih =>
  by_cases hb:b=0
  .rw[SH b l hb];simp[hb,Lib.indexByte]
  .have h1:(b==0)=false:=by simpa using hb
   rw[RZ b l hb];simp only[Lib.indexByte,h1,ih,jI,if_false,oH,Nat.add_right_cancel_iff];by_cases h3:(text l).length=l.length
   .rw[if_pos h3,if_pos h3];rfl
   .have h4:(((text l).length:Int)==-1)=false:=by rw[beq_eq_false_iff_ne];omega
    rw[if_neg h3,if_neg h3,h4];simp
end Plain
theorem pO(a:Option Addr)(n c:Nat)(l:List UInt8)(w:World)(h:Bs w a n c l):Calls qp0 146 #[.slice a n c] w fun e w'=>e=.returned (.string ⟨(Plain.text l).toArray⟩)/\w=w':=by
 have hl:=h.len;have hi:=Plain.BM l;have h1:=Plain.sU l;have h2:=Plain.Td l;have h0:(0:Int).toNat.toUInt8=0:=rfl;generalize Plain.text l=t at *
 by_cases hz:t.length=l.length
 .rw[if_pos hz] at hi;have ht:t=l:=by rw[<-h2,hz,qbA]
  clear h1 h2 hz;subst ht;have HI:=ah hi;have HL:=ah hl;have H0:=ah h0;clear hi hl h0;go_enter func146,ntmps146;go_wp2_with (first|(go_at_call 183;refine(wJ _ _ _ _ _ _ h).mono ?_;rintro e w1 ⟨rfl,rfl⟩;rw[H0.out,HI.out])|(with_reducible refine aT rfl _ _ _ rfl underlying22 underlying5 underlying9 rfl h ?_))
  go_ret;exact⟨rfl,rfl⟩
 .rw[if_neg hz] at hi;have HI:=ah hi;have HL:=ah hl;have H0:=ah h0;have H2:=ah h2;clear hi hl h0 h2;have hm:t.length<=n:=by rw[<-HL.out];exact h1
  go_enter func146,ntmps146;go_wp2_with (first|(go_at_call 183;refine(wJ _ _ _ _ _ _ h).mono ?_;rintro e w1 ⟨rfl,rfl⟩;rw[H0.out,HI.out])|(with_reducible first|refine gI rfl _ _ _ _ rfl underlying22 (by kernel_rfl) rfl h 0 t.length .i64 .i64 rfl rfl (by omega) hm ?_;intro a2 hb2|refine aT rfl _ _ _ rfl underlying22 underlying5 underlying9 rfl hb2 ?_))
  go_ret;refine⟨aat ?_,rfl⟩;rw[H2.out]
namespace Plain
def stroke(l:List UInt8):Int:=Lib.lastIndexByte ⟨(l.take (min 156 (l.length - 1))).toArray⟩ 47
def split(l:List UInt8):List UInt8×List UInt8×Int :=
 if l=[] then([],[],43)
 else if 0<=Lib.indexByte l 0 then([],[],43)
 else if l.length<=100 then([],l,0)
 else if stroke l<1 then([],[],43)
 else if 100<(l.length:Int)-stroke l - 1 then([],[],43)
 else(l.take (stroke l).toNat,l.drop ((stroke l).toNat+1),0)
theorem zV(l:List UInt8):(stroke l=-1/\∀ j,j<min 156 (l.length - 1)->l.getD j 0≠47) \/ (∃ i:Nat,i<min 156 (l.length - 1)/\stroke l=i/\l.getD i 0=47/\∀ j,i<j->j<min 156 (l.length - 1)->l.getD j 0≠47):=by
 have hsz:((⟨(l.take (min 156 (l.length - 1))).toArray⟩:ByteArray)).size=min 156 (l.length - 1):=by simp[ByteArray.size]
 have hat:∀ j,j<min 156 (l.length - 1)->((l.take (min 156 (l.length - 1))).toArray[j]!)=l.getD j 0:=by
  intro j hj;have hjl:j<l.length:=by omega
  have h1:j<(l.take (min 156 (l.length - 1))).length:=by simp;omega
  simp[List.getD,kM hjl,VX,hj]
 have h:=Lib.lastIdx_spec ⟨(l.take (min 156 (l.length - 1))).toArray⟩ 47 (min 156 (l.length - 1));have e:Lib.lastIdx ⟨(l.take (min 156 (l.length - 1))).toArray⟩ 47 (min 156 (l.length - 1))=stroke l:=by rw[stroke,Lib.lastIndexByte,hsz]
 rw[e] at h;have h47:∀ b:UInt8,((b.toNat:Int)=47)↔b=47:=fun b=>⟨fun hb=>VL.1 (by simpa using(by omega:b.toNat=47)),fun hb=>by subst hb;rfl⟩
 rcases h with⟨h1,h2⟩|⟨i,hi,h1,h2,h3⟩
 .exact .inl ⟨h1,fun j hj hc=>h2 j hj (by rw[hat j hj];exact(h47 _).2 hc)⟩
 .exact .inr ⟨i,hi,h1,(h47 _).1 (by rw[<-hat i hi];exact h2),fun j hj hj2 hc=>h3 j hj hj2 (by rw[hat j hj2];exact(h47 _).2 hc)⟩
end Plain
def splitV(r:List UInt8×List UInt8×Int):Value:=.tuple #[.string ⟨r.1.toArray⟩,.string ⟨r.2.1.toArray⟩,.int .i64 r.2.2]
theorem SC(l:List UInt8)(w:World)(hl:l.length<=140737488351232):Calls qp0 67 #[.string ⟨l.toArray⟩] w fun e w'=>e=.returned (splitV (Plain.split l))/\Below w.heap.size w w':=by
 have h0:(0:Int).toNat.toUInt8=0:=rfl;have H0:=ah h0;clear h0;unfold Plain.split
 by_cases c1:l=[]
 .subst c1;rw[if_pos rfl];go_enter func67,ntmps67;go_wp2
  go_ret3;exact⟨rfl,Below.refl _ _⟩
 .rw[if_neg c1];have Zw:l.isEmpty=false:=by simpa using c1
  by_cases c2:0<=Lib.indexByte l 0
  .rw[if_pos c2];generalize hi:Lib.indexByte l 0=i at c2;have HI:=ah hi;clear hi;go_enter func67,ntmps67;go_wp2_with (go_at_call 87;refine(Tryz.strings_IndexByte _ _ _).mono ?_;rintro e w1 ⟨rfl,hw⟩;obtain rfl:=hw.symm;rw[H0.out,HI.out])
   go_ret3;exact⟨rfl,Below.refl _ _⟩
  .rw[if_neg c2];generalize hi:Lib.indexByte l 0=i at c2;have HI:=ah hi;clear hi;have c2':i<0:=by omega
   clear c2;by_cases c3:l.length<=100
   .rw[if_pos c3];go_enter func67,ntmps67;go_wp2_with (go_at_call 87;refine(Tryz.strings_IndexByte _ _ _).mono ?_;rintro e w1 ⟨rfl,hw⟩;obtain rfl:=hw.symm;rw[H0.out,HI.out])
    go_ret3;exact⟨rfl,Below.refl _ _⟩
   .rw[if_neg c3];have hst:=Plain.zV l;have hs1:Plain.stroke l<156/\Plain.stroke l<l.length - 1/\-1<=Plain.stroke l:=by rcases hst with⟨h,_⟩|⟨i,hi,h,_⟩ <;> omega
    clear hst;have HS:Hid (Lib.lastIndexByte ⟨(l.take (min 156 (l.length - 1))).toArray⟩ 47=Plain.stroke l):=rfl;generalize Plain.stroke l=s at *
    have HE:Hid (((⟨l.toArray⟩:ByteArray).extract 0 (min 156 ((l.length:Int) - 1)).toNat)=⟨(l.take (min 156 (l.length - 1))).toArray⟩):=by
     show _=_;rw[ByteArray.extract_mk,show(min 156 ((l.length:Int) - 1)).toNat=min 156 (l.length - 1) by omega];simp
    have hz:((⟨(l.take (min 156 (l.length - 1))).toArray⟩:ByteArray)).size<4611686018427387904:=by simp[ByteArray.size];omega
    by_cases c4:s<1
    .rw[if_pos c4];go_enter func67,ntmps67;go_wp2_with (go_at_call 87;refine(Tryz.strings_IndexByte _ _ _).mono ?_;rintro e w1 ⟨rfl,hw⟩;obtain rfl:=hw.symm;rw[H0.out,HI.out])
     rw[HE.out];refine(Tryz.strings_LastIndexByte _ _ hz _).mono ?_;rintro e w1 ⟨rfl,hw⟩;obtain rfl:=hw.symm;rw[HS.out];generalize (⟨(l.take (min 156 (l.length - 1))).toArray⟩:ByteArray)=hd at *
     go_wp2
     go_ret3;exact⟨rfl,Below.refl _ _⟩
    .rw[if_neg c4];obtain⟨k,rfl⟩:=Xq (show 0<=s by omega);by_cases c5:100<(l.length:Int)-k - 1
     .rw[if_pos c5];go_enter func67,ntmps67;go_wp2_with (go_at_call 87;refine(Tryz.strings_IndexByte _ _ _).mono ?_;rintro e w1 ⟨rfl,hw⟩;obtain rfl:=hw.symm;rw[H0.out,HI.out])
      rw[HE.out];refine(Tryz.strings_LastIndexByte _ _ hz _).mono ?_;rintro e w1 ⟨rfl,hw⟩;obtain rfl:=hw.symm;rw[HS.out];generalize (⟨(l.take (min 156 (l.length - 1))).toArray⟩:ByteArray)=hd at *
      go_wp2
      go_ret3;exact⟨rfl,Below.refl _ _⟩
     .rw[if_neg c5];go_enter func67,ntmps67;go_wp2_with (go_at_call 87;refine(Tryz.strings_IndexByte _ _ _).mono ?_;rintro e w1 ⟨rfl,hw⟩;obtain rfl:=hw.symm;rw[H0.out,HI.out])
      rw[HE.out];refine(Tryz.strings_LastIndexByte _ _ hz _).mono ?_;rintro e w1 ⟨rfl,hw⟩;obtain rfl:=hw.symm;rw[HS.out];generalize (⟨(l.take (min 156 (l.length - 1))).toArray⟩:ByteArray)=hd at *
      go_wp2
      go_quiet (fail)
      go_wp2
      go_ret3;refine⟨?_,Below.drewN (Below.refl _ _) _⟩;have e1:((⟨l.toArray⟩:ByteArray).extract 0 k)=⟨(l.take k).toArray⟩:=by rw[ByteArray.extract_mk];simp
      have e2:((⟨l.toArray⟩:ByteArray).extract (k+1) l.length)=⟨(l.drop (k+1)).toArray⟩:=by
       rw[ByteArray.extract_mk,MU (by simp)]
      simp[splitV,e1,e2]
namespace Plain
theorem indexByte_none(l:List UInt8)(h:Lib.indexByte l 0<0):∀ j,j<l.length->l.getD j 0≠0:=by
 induction l with
 | nil=>simp
 | cons b l ih =>
  intro j hj;unfold Lib.indexByte at h;split at h
  .omega
  .rename_i hb
   cases j with
   | zero=>simpa using hb
   | succ j =>
    have hl:Lib.indexByte l 0<0:=by
     split at h
     .rename_i h1;have:=eq_of_beq h1;omega
     .omega
    simpa using ih hl j (by simpa using hj)
theorem indexByte_some(l:List UInt8)(h:0<=Lib.indexByte l 0):∃ j,j<l.length/\l.getD j 0=0:=by
 induction l with
 | nil=>simp[Lib.indexByte] at h
 | cons b l ih =>
  unfold Lib.indexByte at h;split at h
  .rename_i hb;exact⟨0,by simp,by simpa using hb⟩
  .split at h
   .omega
   .rename_i h1
    have hge:0<=Lib.indexByte l 0:=by
     have hm:∀ m:List UInt8,-1<=Lib.indexByte m 0:=by
      intro m
      induction m with
      | nil=>simp[Lib.indexByte]
      | cons c m ihm=>unfold Lib.indexByte;split;omega;split <;> omega
     have:=hm l;have:Lib.indexByte l 0≠-1:=by simpa using h1
     omega
    obtain⟨j,hj,hz⟩:=ih hge;exact⟨j+1,by simpa using hj,by simpa using hz⟩
def Well(l p s:List UInt8):Prop:=0<s.length/\s.length<=100/\p.length<=155/\((p=[]/\s=l)\/(p≠[]/\p++[47]++s=l/\100<l.length))
def Ill(l:List UInt8):Prop:=(∃ j,j<l.length/\l.getD j 0=0) \/ ((∀ i,1<=i->i+1<l.length->l.getD i 0=47->i<=155->l.length - 1-i<=100->False)/\(l.length=0\/100<l.length))
theorem zZ(l:List UInt8):(∃ p s,split l=(p,s,0)/\Well l p s)\/(split l=([],[],43)/\Ill l):=by
 unfold split
 by_cases c1:l=[]
 .rw[if_pos c1];subst c1;exact .inr ⟨rfl,.inr ⟨fun i _ h=>by simp at h,.inl rfl⟩⟩
 .rw[if_neg c1];have hpos:0<l.length:=qbQ.2 c1;by_cases c2:0<=Lib.indexByte l 0
  .rw[if_pos c2];exact .inr ⟨rfl,.inl (indexByte_some l c2)⟩
  .rw[if_neg c2];by_cases c3:l.length<=100
   .rw[if_pos c3];exact .inl ⟨[],l,rfl,hpos,c3,by simp,.inl ⟨rfl,rfl⟩⟩
   .rw[if_neg c3];have hst:=zV l;by_cases c4:stroke l<1
    .rw[if_pos c4];refine .inr ⟨rfl,.inr ⟨fun i h1 h2 h3 h4 h5=>?_,.inr (by omega)⟩⟩;rcases hst with⟨_,hn⟩|⟨k,hk,hs,_,hn⟩
     .exact hn i (by omega) h3
     .exact hn i (by omega) (by omega) h3
    .rw[if_neg c4];by_cases c5:100<(l.length:Int)-stroke l - 1
     .rw[if_pos c5];refine .inr ⟨rfl,.inr ⟨fun i h1 h2 h3 h4 h5=>?_,.inr (by omega)⟩⟩;rcases hst with⟨hs,hn⟩|⟨k,hk,hs,_,hn⟩
      .omega
      .exact hn i (by omega) (by omega) h3
     .rw[if_neg c5];rcases hst with⟨hs,hn⟩|⟨k,hk,hs,h47,hn⟩
      .omega
      .rw[hs] at c4 c5 ⊢;have hkl:k<l.length:=by omega
       simp only[Int.toNat_natCast];refine .inl ⟨_,_,rfl,by rw[zW];omega,by rw[zW];omega,by rw[zQ];omega,.inr ⟨?_,?_,by omega⟩⟩
       .intro h0;rcases List.take_eq_nil_iff.1 h0 with h|h;omega;subst h;simp at hkl
       .have e:l.getD k 0=l[k]:=by simp[List.getD,kM hkl]
        rw[e] at h47;have:=Nh hkl;rw[<-h47,<-this,qbh]
end Plain
structure Hd where
 name:List UInt8
 link:List UInt8
 mode:Int
 uid:Int
 gid:Int
 size:Int
 mtime:Int
 ty:UInt8
 user:List UInt8
 group:List UInt8
 major:Int
 minor:Int
 form:Int
def Hd.zero:Hd:=⟨[],[],0,0,0,0,0,0,[],[],0,0,0⟩
def eH(l:List UInt8)(s e:Nat):List UInt8:=(l.take e).drop s
def rQ(p:Int×Int)(lo hi:Int):Bool:=decide (p.2=0/\lo<=p.1/\p.1<=hi)
def dB:List UInt8:=[117,115,116,97,114,0,48,48]
def Hr:List UInt8:=[117,115,116,97,114,32,32,0]
def bN(l:List UInt8):Int:=if eH l 257 265=dB then 2 else if eH l 257 265=Hr then 3 else 1
def fB(l:List UInt8):UInt8:=if l.getD 156 0=0\/l.getD 156 0=55 then 48 else l.getD 156 0
def om(l:List UInt8):Bool:=decide (bN l≠1/\(fB l=51\/fB l=52))
def mD(l:List UInt8)(s e:Nat):Int×Int:=Plain.number (eH l s e)
def nK(l:List UInt8):Bool :=rQ (mD l 100 108) 0 9223372036854775807&&rQ (mD l 108 116) 0 2147483647&&rQ (mD l 116 124) 0 2147483647&&rQ (mD l 124 136) 0 9223372036854775807&&rQ (mD l 136 148) (-1099511627776) 1099511627776 &&
 (!om l||(rQ (mD l 329 337) 0 9223372036854775807&&rQ (mD l 337 345) 0 9223372036854775807))
def nameOf(l:List UInt8):List UInt8 :=
 if bN l=2/\Plain.text (eH l 345 500)≠[] then Plain.text (eH l 345 500)++47::Plain.text (eH l 0 100) else Plain.text (eH l 0 100)
def NQ(l:List UInt8):Hd :=⟨nameOf l,Plain.text (eH l 157 257),(mD l 100 108).1,(mD l 108 116).1,(mD l 116 124).1,if 49<=(fB l).toNat/\(fB l).toNat<=54 then 0 else(mD l 124 136).1,(mD l 136 148).1,fB l,
  if bN l=1 then[] else Plain.text (eH l 265 297),if bN l=1 then[] else Plain.text (eH l 297 329),if om l=true then(mD l 329 337).1 else 0,if om l=true then(mD l 337 345).1 else 0,bN l⟩
def Plain.hread(l:List UInt8):Hd×Int :=
 if l=cZ then(Hd.zero,40) else if Plain.sealed l=false then(Hd.zero,41) else if nK l=false then(Hd.zero,42) else(NQ l,0)
def lay(l:List UInt8)(f:Nat)(t:List UInt8):List UInt8:=l.take f++t++l.drop (f+t.length)
theorem gF(l:List UInt8)(f:Nat)(t:List UInt8)(h:f+t.length<=l.length):(lay l f t).length=l.length:=by
 unfold lay;rw[vG,vG,zQ,zW];omega
theorem tQ(l:List UInt8)(s e:Nat)(h:e<=l.length):(eH l s e).length=e-s:=by unfold eH;rw[zW,zQ];omega
theorem Vk(l:List UInt8)(f:Nat)(t:List UInt8)(h:f+t.length<=l.length)(k:Nat):(lay l f t).getD k 0=if f<=k/\k<f+t.length then t.getD (k-f) 0 else l.getD k 0:=by
 have hf:(l.take f).length=f:=by rw[zQ];omega
 unfold lay;by_cases h1:k<f
 .rw[if_neg (by omega)];simp only[List.getD];rw[qbm (by rw[vG,hf];omega),qbm (by rw[hf];exact h1),VX,if_pos h1]
 .by_cases h2:k<f+t.length
  .rw[if_pos ⟨by omega,h2⟩];simp only[List.getD];rw[qbm (by rw[vG,hf];omega),qb0 (by omega),hf]
  .rw[if_neg (by omega)];simp only[List.getD];rw[qb0 (by rw[vG,hf];omega),vG,hf,qbE,show f+t.length+(k-(f+t.length))=k by omega]
theorem ZX(l:List UInt8)(k:Nat)(c:UInt8)(h:k<l.length):l.set k c=lay l k [c]:=by
 have h':k+[c].length<=l.length:=h;refine EW (by rw[gF _ _ _ h'];simp) fun j hj=>?_
 rw[Vk _ _ _ h'];by_cases e:j=k
 .subst e;simp[List.getD,h]
 .rw[if_neg (by simp;omega)];simp[List.getD,List.getElem?_set,show ¬ k=j from fun h=>e h.symm]
def pad(n:Nat)(t:List UInt8):List UInt8:=t++(List.replicate n 0).drop t.length
theorem abz(n:Nat)(t:List UInt8)(h:t.length<=n):(pad n t).length=n:=by unfold pad;rw[vG,zW,Xm];omega
theorem aaR(n:Nat):pad n []=List.replicate n 0:=by unfold pad;simp
def ig:List Nat->List (List UInt8)->List UInt8
 | n::W,t::T=>pad n t++ig W T
 | _,_=>[]
def Fit:List Nat->List (List UInt8)->Prop
 | n::W,t::T=>t.length<=n/\Fit W T
 | [],[]=>True
 | _,_=>False
theorem abC(a r:List UInt8)(f:Nat)(t:List UInt8):lay (a++r) (a.length+f) t=a++lay r f t:=by
 unfold lay;rw[List.take_append,List.drop_append,MU (by omega),qa9 (by omega),show a.length+f-a.length=f by omega,show a.length+f+t.length-a.length=f+t.length by omega];simp
theorem gD:∀ (W:List Nat)(T:List (List UInt8))(k:Nat)(t:List UInt8),Fit W T->T[k]? = some []->t.length<=W.getD k 0->lay (ig W T) ((W.take k).sum) t=ig W (T.set k t)/\Fit W (T.set k t)
 | [],[],k,t,_,h,_=>by simp at h
 | [],_::_,_,_,h,_,_=>h.elim
 | _::_,[],_,_,h,_,_=>h.elim
 | n::W,u::T,0,t,hF,h,ht=>by
  simp only[List.getElem?_cons_zero,Ba] at h;subst h;simp only[List.getD_cons_zero] at ht;refine⟨?_,ht,hF.2⟩;simp only[dY,qct,List.sum_nil];unfold ig lay;rw[aaR,qct,yG,lU,List.drop_append_of_le_length (by rw[Xm];exact ht)];unfold pad;rw[qbI]
 | n::W,u::T,k+1,t,hF,h,ht=>by
  simp only[List.getElem?_cons_succ] at h;obtain⟨e,hF2⟩:=gD W T k t hF.2 h (by simpa using ht);refine⟨?_,hF.1,hF2⟩;simp only[qzs,List.take_succ_cons,List.sum_cons];unfold ig;rw[show n+(W.take k).sum=(pad n u).length+(W.take k).sum by rw[abz n u hF.1],abC,e]
def jG:List Nat:=[100,8,8,8,12,12,8,1,100,8,32,32,8,8,155,12]
theorem ahd:Fit jG [[],[],[],[],[],[],[],[],[],[],[],[],[],[],[],[]]:=by simp[Fit,jG]
theorem aaH:cZ=ig jG [[],[],[],[],[],[],[],[],[],[],[],[],[],[],[],[]]:=by decide +kernel
theorem O7(r n0 n1 n2 n3 n4 n5 n6 link user group p:List UInt8)(ty:UInt8)(hr:r.length<=100)(h0:n0.length<=8)(h1:n1.length<=8)(h2:n2.length<=8)(h3:n3.length<=12)(h4:n4.length<=12)(h5:n5.length<=8)(h6:n6.length<=8)(hl:link.length<=100)(hu:user.length<=32)(hg:group.length<=32)(hp:p.length<=155):lay (lay (lay (lay (lay (lay (lay (lay (lay (lay (lay (lay (lay (lay cZ 100 n0) 108 n1) 116 n2) 124 n3) 136 n4) 329 n5) 337 n6) 0 r) 156 [ty]) 157 link) 257 dB) 265 user) 297 group) 345 p=ig jG [r,n0,n1,n2,n3,n4,[],[ty],link,dB,user,group,n5,n6,p,[]]:=by
 have f:=ahd;rw[aaH];have g:=gD jG [[],[],[],[],[],[],[],[],[],[],[],[],[],[],[],[]] 1 n0 f rfl h0;rw[show lay (ig jG [[],[],[],[],[],[],[],[],[],[],[],[],[],[],[],[]]) 100 n0=ig jG [[],n0,[],[],[],[],[],[],[],[],[],[],[],[],[],[]] from g.1]
 replace f:Fit jG [[],n0,[],[],[],[],[],[],[],[],[],[],[],[],[],[]]:=g.2
 clear g;have g:=gD jG [[],n0,[],[],[],[],[],[],[],[],[],[],[],[],[],[]] 2 n1 f rfl h1;rw[show lay (ig jG [[],n0,[],[],[],[],[],[],[],[],[],[],[],[],[],[]]) 108 n1=ig jG [[],n0,n1,[],[],[],[],[],[],[],[],[],[],[],[],[]] from g.1]
 replace f:Fit jG [[],n0,n1,[],[],[],[],[],[],[],[],[],[],[],[],[]]:=g.2
 clear g;have g:=gD jG [[],n0,n1,[],[],[],[],[],[],[],[],[],[],[],[],[]] 3 n2 f rfl h2;rw[show lay (ig jG [[],n0,n1,[],[],[],[],[],[],[],[],[],[],[],[],[]]) 116 n2=ig jG [[],n0,n1,n2,[],[],[],[],[],[],[],[],[],[],[],[]] from g.1]
 replace f:Fit jG [[],n0,n1,n2,[],[],[],[],[],[],[],[],[],[],[],[]]:=g.2
 clear g;have g:=gD jG [[],n0,n1,n2,[],[],[],[],[],[],[],[],[],[],[],[]] 4 n3 f rfl h3;rw[show lay (ig jG [[],n0,n1,n2,[],[],[],[],[],[],[],[],[],[],[],[]]) 124 n3=ig jG [[],n0,n1,n2,n3,[],[],[],[],[],[],[],[],[],[],[]] from g.1]
 replace f:Fit jG [[],n0,n1,n2,n3,[],[],[],[],[],[],[],[],[],[],[]]:=g.2
 clear g;have g:=gD jG [[],n0,n1,n2,n3,[],[],[],[],[],[],[],[],[],[],[]] 5 n4 f rfl h4;rw[show lay (ig jG [[],n0,n1,n2,n3,[],[],[],[],[],[],[],[],[],[],[]]) 136 n4=ig jG [[],n0,n1,n2,n3,n4,[],[],[],[],[],[],[],[],[],[]] from g.1]
 replace f:Fit jG [[],n0,n1,n2,n3,n4,[],[],[],[],[],[],[],[],[],[]]:=g.2
 clear g;have g:=gD jG [[],n0,n1,n2,n3,n4,[],[],[],[],[],[],[],[],[],[]] 12 n5 f rfl h5;rw[show lay (ig jG [[],n0,n1,n2,n3,n4,[],[],[],[],[],[],[],[],[],[]]) 329 n5=ig jG [[],n0,n1,n2,n3,n4,[],[],[],[],[],[],n5,[],[],[]] from g.1]
 replace f:Fit jG [[],n0,n1,n2,n3,n4,[],[],[],[],[],[],n5,[],[],[]]:=g.2
 clear g;have g:=gD jG [[],n0,n1,n2,n3,n4,[],[],[],[],[],[],n5,[],[],[]] 13 n6 f rfl h6;rw[show lay (ig jG [[],n0,n1,n2,n3,n4,[],[],[],[],[],[],n5,[],[],[]]) 337 n6=ig jG [[],n0,n1,n2,n3,n4,[],[],[],[],[],[],n5,n6,[],[]] from g.1]
 replace f:Fit jG [[],n0,n1,n2,n3,n4,[],[],[],[],[],[],n5,n6,[],[]]:=g.2
 clear g;have g:=gD jG [[],n0,n1,n2,n3,n4,[],[],[],[],[],[],n5,n6,[],[]] 0 r f rfl hr;rw[show lay (ig jG [[],n0,n1,n2,n3,n4,[],[],[],[],[],[],n5,n6,[],[]]) 0 r=ig jG [r,n0,n1,n2,n3,n4,[],[],[],[],[],[],n5,n6,[],[]] from g.1]
 replace f:Fit jG [r,n0,n1,n2,n3,n4,[],[],[],[],[],[],n5,n6,[],[]]:=g.2
 clear g;have g:=gD jG [r,n0,n1,n2,n3,n4,[],[],[],[],[],[],n5,n6,[],[]] 7 [ty] f rfl (by decide:1<=1);rw[show lay (ig jG [r,n0,n1,n2,n3,n4,[],[],[],[],[],[],n5,n6,[],[]]) 156 [ty]=ig jG [r,n0,n1,n2,n3,n4,[],[ty],[],[],[],[],n5,n6,[],[]] from g.1]
 replace f:Fit jG [r,n0,n1,n2,n3,n4,[],[ty],[],[],[],[],n5,n6,[],[]]:=g.2
 clear g;have g:=gD jG [r,n0,n1,n2,n3,n4,[],[ty],[],[],[],[],n5,n6,[],[]] 8 link f rfl hl;rw[show lay (ig jG [r,n0,n1,n2,n3,n4,[],[ty],[],[],[],[],n5,n6,[],[]]) 157 link=ig jG [r,n0,n1,n2,n3,n4,[],[ty],link,[],[],[],n5,n6,[],[]] from g.1]
 replace f:Fit jG [r,n0,n1,n2,n3,n4,[],[ty],link,[],[],[],n5,n6,[],[]]:=g.2
 clear g;have g:=gD jG [r,n0,n1,n2,n3,n4,[],[ty],link,[],[],[],n5,n6,[],[]] 9 dB f rfl (by decide:8<=8);rw[show lay (ig jG [r,n0,n1,n2,n3,n4,[],[ty],link,[],[],[],n5,n6,[],[]]) 257 dB=ig jG [r,n0,n1,n2,n3,n4,[],[ty],link,dB,[],[],n5,n6,[],[]] from g.1]
 replace f:Fit jG [r,n0,n1,n2,n3,n4,[],[ty],link,dB,[],[],n5,n6,[],[]]:=g.2
 clear g;have g:=gD jG [r,n0,n1,n2,n3,n4,[],[ty],link,dB,[],[],n5,n6,[],[]] 10 user f rfl hu;rw[show lay (ig jG [r,n0,n1,n2,n3,n4,[],[ty],link,dB,[],[],n5,n6,[],[]]) 265 user=ig jG [r,n0,n1,n2,n3,n4,[],[ty],link,dB,user,[],n5,n6,[],[]] from g.1]
 replace f:Fit jG [r,n0,n1,n2,n3,n4,[],[ty],link,dB,user,[],n5,n6,[],[]]:=g.2
 clear g;have g:=gD jG [r,n0,n1,n2,n3,n4,[],[ty],link,dB,user,[],n5,n6,[],[]] 11 group f rfl hg;rw[show lay (ig jG [r,n0,n1,n2,n3,n4,[],[ty],link,dB,user,[],n5,n6,[],[]]) 297 group=ig jG [r,n0,n1,n2,n3,n4,[],[ty],link,dB,user,group,n5,n6,[],[]] from g.1]
 replace f:Fit jG [r,n0,n1,n2,n3,n4,[],[ty],link,dB,user,group,n5,n6,[],[]]:=g.2
 clear g;have g:=gD jG [r,n0,n1,n2,n3,n4,[],[ty],link,dB,user,group,n5,n6,[],[]] 14 p f rfl hp;rw[show lay (ig jG [r,n0,n1,n2,n3,n4,[],[ty],link,dB,user,group,n5,n6,[],[]]) 345 p=ig jG [r,n0,n1,n2,n3,n4,[],[ty],link,dB,user,group,n5,n6,p,[]] from g.1]
def rO(h:Hd):Bool:=decide ((Plain.split h.name).2.2=0/\h.link.length<=100/\h.user.length<=32/\h.group.length<=32/\(0:UInt8)∉h.link/\(0:UInt8)∉h.user/\(0:UInt8)∉h.group/\h.ty≠0) &&
 decide (0<=h.mode/\0<=h.size/\0<=h.major/\0<=h.minor/\0<=h.uid/\h.uid<=2147483647/\0<=h.gid/\h.gid<=2147483647/\-1099511627776<=h.mtime/\h.mtime<=1099511627776) &&
 decide ((Plain.put h.mode 8).2=0/\(Plain.put h.uid 8).2=0/\(Plain.put h.gid 8).2=0/\(Plain.put h.size 12).2=0/\(Plain.put h.mtime 12).2=0/\(Plain.put h.major 8).2=0/\(Plain.put h.minor 8).2=0)
def partsOf(h:Hd)(s:List UInt8):List (List UInt8) :=[(Plain.split h.name).2.1,(Plain.put h.mode 8).1,(Plain.put h.uid 8).1,(Plain.put h.gid 8).1,(Plain.put h.size 12).1,(Plain.put h.mtime 12).1,s,[h.ty],h.link,dB,h.user,h.group,(Plain.put h.major 8).1,(Plain.put h.minor 8).1,(Plain.split h.name).1,[]]
def oZ(h:Hd):List UInt8:=ig jG (partsOf h [])
def Plain.make(h:Hd):List UInt8×Int:=if rO h=true then(Plain.seal (oZ h),0) else(cZ,43)
structure Ol(h:Hd):Prop where
 mode:iF h.mode=true
 uid:iF h.uid=true
 gid:iF h.gid=true
 size:iF h.size=true
 mtime:iF h.mtime=true
 major:iF h.major=true
 minor:iF h.minor=true
theorem aau(v n:Int)(h63:iF v=true)(h:(Plain.put v n).2=0)(m:Nat)(hm:n=m):(Plain.put v n).1.length=m:=by
 have:=(XF v n h63 h).2;omega
section
theorem RA(l:List UInt8):bN l=if (eH l 257 265==dB)=true then 2 else if (eH l 257 265==Hr)=true then 3 else 1:=by
 unfold bN;simp only[beq_iff_eq]
theorem Yz(g:Nat)(l:List UInt8)(w:World)(hl:l.length=512)(hg:w.heap[g]? = some (.cells (aL l) 70 (0,0))):Calls qp0 145 #[.pointer (some ⟨g,0,none⟩)] w fun e w'=>e=.returned (.int .i64 (bN l))/\w=w':=by
 have hb:Bs w (some ⟨g,257,none⟩) (265 - 257) (512 - 257) (eH l 257 265):=Nj hg 257 265 (512 - 257) (by decide) (by omega) (by decide) (by unfold maxLen;omega);rw[RA];unfold dB Hr;generalize eH l 257 265=f at *
 have HB:=ah hb;clear hb hg hl;by_cases h1:(f==[117,115,116,97,114,0,48,48])=true
 .rw[if_pos h1];go_enter func145,ntmps145;go_wp2_with (first|(with_reducible first|refine bA rfl _ _ _ _ rfl underlying70 (by kernel_rfl) g rfl 257 265 .i64 .i64 rfl rfl (by decide) (by decide) (by decide) ?_|refine aT rfl _ _ _ rfl underlying22 underlying5 underlying9 rfl HB.out ?_))
  go_ret;exact⟨rfl,rfl⟩
 .have h1':(f==[117,115,116,97,114,0,48,48])=false:=by simpa using h1
  rw[if_neg h1];clear h1;by_cases h2:(f==[117,115,116,97,114,32,32,0])=true
  .rw[if_pos h2];go_enter func145,ntmps145;go_wp2_with (first|(with_reducible first|refine bA rfl _ _ _ _ rfl underlying70 (by kernel_rfl) g rfl 257 265 .i64 .i64 rfl rfl (by decide) (by decide) (by decide) ?_|refine aT rfl _ _ _ rfl underlying22 underlying5 underlying9 rfl HB.out ?_))
   go_ret;exact⟨rfl,rfl⟩
  .have h2':(f==[117,115,116,97,114,32,32,0])=false:=by simpa using h2
   rw[if_neg h2];clear h2;go_enter func145,ntmps145;go_wp2_with (first|(with_reducible first|refine bA rfl _ _ _ _ rfl underlying70 (by kernel_rfl) g rfl 257 265 .i64 .i64 rfl rfl (by decide) (by decide) (by decide) ?_|refine aT rfl _ _ _ rfl underlying22 underlying5 underlying9 rfl HB.out ?_))
   go_ret;exact⟨rfl,rfl⟩
def fieldAt:Nat->Nat×Nat×Int×Int
 | 0=>(100,108,0,9223372036854775807)
 | 1=>(108,116,0,2147483647)
 | 2=>(116,124,0,2147483647)
 | 3=>(124,136,0,9223372036854775807)
 | 4=>(136,148,-1099511627776,1099511627776)
 | 5=>(329,337,0,9223372036854775807)
 | _=>(337,345,0,9223372036854775807)
def Cj(k:Nat):List Value:=[.int .i64 (fieldAt k).1,.int .i64 (fieldAt k).2.1,.int .i64 (fieldAt k).2.2.1,.int .i64 (fieldAt k).2.2.2]
def nW:Array Value:=(((List.range 7).flatMap Cj)).toArray
theorem OH:(qp0.info? 133).map (·.size)=some nW.size:=by kernel_rfl
theorem Nt:∀ u∈nW.toList,u.oneCell'=true:=by
 intro u hu;simp[nW,Cj,fieldAt,List.range,List.range.loop] at hu;rcases hu with h|h|h|h|h|h|h|h|h|h|h|h|h|h|h|h|h|h|h|h|h|h|h|h|h|h|h|h <;> subst h <;> rfl
section
variable {P:Program}{ops:Array Oper}{rest:List Oper}{o:Oper}{a:Act}{w:World}{Q:Exit->Act->World->Prop}
theorem fD(hg:o.guard=none){t:TypeId}{es:Array (Nat×Operand)}(_ho:o.op=.build t es)(v:Value)(h:(execOp a.eval o).run P w=.ok (.value v) w)(hk:wpList P ops Q rest (a.put o.dst v) w):wpList P ops Q (o::rest) a w:=bI hg v w h hk
end
theorem Cx(w:World):Calls qp0 69 #[] w fun e w'=>e=.returned (.agg nW)/\Below w.heap.size w w':=by
 obtain⟨FA,hFA⟩:∃ FA,FA=nW:=⟨_,rfl⟩
 have HI:Hid ((qp0.info? 133).map (·.size)=some FA.size):=by rw[hFA];exact ah OH
 have HO:Hid (∀ u∈FA.toList,u.oneCell'=true):=by rw[hFA];exact ah Nt
 have HS:Hid (FA.size=28):=by rw[hFA];exact ah rfl
 rw[<-hFA];have HFA:=ah hFA;clear hFA;go_enter func69,ntmps69;go_upto_region 1 with fail
 have hh:=heap_alloc_new w (.cells #[.int .i64 0,.int .i64 0,.int .i64 0,.int .i64 0,.int .i64 0,.int .i64 0,.int .i64 0,.int .i64 0,.int .i64 0,.int .i64 0,.int .i64 0,.int .i64 0,.int .i64 0,.int .i64 0,.int .i64 0,.int .i64 0,.int .i64 0,.int .i64 0,.int .i64 0,.int .i64 0,.int .i64 0,.int .i64 0,.int .i64 0,.int .i64 0,.int .i64 0,.int .i64 0,.int .i64 0,.int .i64 0] 133);have hb:=(Below.refl w.heap.size w).alloc (aY _) (.cells #[.int .i64 0,.int .i64 0,.int .i64 0,.int .i64 0,.int .i64 0,.int .i64 0,.int .i64 0,.int .i64 0,.int .i64 0,.int .i64 0,.int .i64 0,.int .i64 0,.int .i64 0,.int .i64 0,.int .i64 0,.int .i64 0,.int .i64 0,.int .i64 0,.int .i64 0,.int .i64 0,.int .i64 0,.int .i64 0,.int .i64 0,.int .i64 0,.int .i64 0,.int .i64 0,.int .i64 0,.int .i64 0] 133);have hz:(#[.int .i64 0,.int .i64 0,.int .i64 0,.int .i64 0,.int .i64 0,.int .i64 0,.int .i64 0,.int .i64 0,.int .i64 0,.int .i64 0,.int .i64 0,.int .i64 0,.int .i64 0,.int .i64 0,.int .i64 0,.int .i64 0,.int .i64 0,.int .i64 0,.int .i64 0,.int .i64 0,.int .i64 0,.int .i64 0,.int .i64 0,.int .i64 0,.int .i64 0,.int .i64 0,.int .i64 0,.int .i64 0]:Array Value).size=FA.size:=by rw[HS.out];rfl
 generalize (#[.int .i64 0,.int .i64 0,.int .i64 0,.int .i64 0,.int .i64 0,.int .i64 0,.int .i64 0,.int .i64 0,.int .i64 0,.int .i64 0,.int .i64 0,.int .i64 0,.int .i64 0,.int .i64 0,.int .i64 0,.int .i64 0,.int .i64 0,.int .i64 0,.int .i64 0,.int .i64 0,.int .i64 0,.int .i64 0,.int .i64 0,.int .i64 0,.int .i64 0,.int .i64 0,.int .i64 0,.int .i64 0]:Array Value)=Z at *
 generalize w.alloc (.cells Z 133)=wa at *
 have HH:=ah hh;have HB:=ah hb;have HZ:=ah hz;clear hh hb hz;go_wp2_with (first|((with_reducible refine fD (t:=132) (es:=#[(0,.const (.int .i64 100)),(1,.const (.int .i64 108)),(2,.const (.int .i64 0)),(3,.const (.int .i64 9223372036854775807))]) rfl rfl (.agg #[.int .i64 100,.int .i64 108,.int .i64 0,.int .i64 9223372036854775807]) (by kernel_rfl) ?_);simp only[Act.put,eu,dY,qzs])|((with_reducible refine fD (t:=132) (es:=#[(0,.const (.int .i64 108)),(1,.const (.int .i64 116)),(2,.const (.int .i64 0)),(3,.const (.int .i64 2147483647))]) rfl rfl (.agg #[.int .i64 108,.int .i64 116,.int .i64 0,.int .i64 2147483647]) (by kernel_rfl) ?_);simp only[Act.put,eu,dY,qzs])|((with_reducible refine fD (t:=132) (es:=#[(0,.const (.int .i64 116)),(1,.const (.int .i64 124)),(2,.const (.int .i64 0)),(3,.const (.int .i64 2147483647))]) rfl rfl (.agg #[.int .i64 116,.int .i64 124,.int .i64 0,.int .i64 2147483647]) (by kernel_rfl) ?_);simp only[Act.put,eu,dY,qzs])|((with_reducible refine fD (t:=132) (es:=#[(0,.const (.int .i64 124)),(1,.const (.int .i64 136)),(2,.const (.int .i64 0)),(3,.const (.int .i64 9223372036854775807))]) rfl rfl (.agg #[.int .i64 124,.int .i64 136,.int .i64 0,.int .i64 9223372036854775807]) (by kernel_rfl) ?_);simp only[Act.put,eu,dY,qzs])|((with_reducible refine fD (t:=132) (es:=#[(0,.const (.int .i64 136)),(1,.const (.int .i64 148)),(2,.const (.int .i64 (-1099511627776))),(3,.const (.int .i64 1099511627776))]) rfl rfl (.agg #[.int .i64 136,.int .i64 148,.int .i64 (-1099511627776),.int .i64 1099511627776]) (by kernel_rfl) ?_);simp only[Act.put,eu,dY,qzs])|((with_reducible refine fD (t:=132) (es:=#[(0,.const (.int .i64 329)),(1,.const (.int .i64 337)),(2,.const (.int .i64 0)),(3,.const (.int .i64 9223372036854775807))]) rfl rfl (.agg #[.int .i64 329,.int .i64 337,.int .i64 0,.int .i64 9223372036854775807]) (by kernel_rfl) ?_);simp only[Act.put,eu,dY,qzs])|((with_reducible refine fD (t:=132) (es:=#[(0,.const (.int .i64 337)),(1,.const (.int .i64 345)),(2,.const (.int .i64 0)),(3,.const (.int .i64 9223372036854775807))]) rfl rfl (.agg #[.int .i64 337,.int .i64 345,.int .i64 0,.int .i64 9223372036854775807]) (by kernel_rfl) ?_);simp only[Act.put,eu,dY,qzs])|((with_reducible refine fD (t:=133) (es:=#[(0,.tmp 1),(1,.tmp 2),(2,.tmp 3),(3,.tmp 4),(4,.tmp 5),(5,.tmp 6),(6,.tmp 7)]) rfl rfl (.agg FA) (by rw[HFA.out];kernel_rfl) ?_);simp only[Act.put,eu,dY,qzs])|(with_reducible refine wpList_store_row rfl 133 _ _ rfl w.heap.size rfl FA rfl Z 133 HH.out HZ.out HI.out HO.out ?_))
 refine bodyPost_ret (results_cell_row rfl _ _ w.heap.size 133 FA (0,0) _ rfl (setRow_heap _ _ _ _ _ _ HH.out) underlying133 rfl HI.out) rfl ⟨rfl,Below.setRow HB.out (aY _) _⟩
end
section
section
variable {P:Program}{ops:Array Oper}{rest:List Oper}{o:Oper}{a:Act}{w:World}{Q:Exit->Act->World->Prop}
theorem zy(hgd:o.guard=none)(t:TypeId)(y x:Operand)(ho:o.op=.index t y x){e:TypeId}{n:Nat}(ht:P.underlying t=some (.array n e))(he:P.underlying e=some (.int .u8))(hsz:(P.info? e).map (·.size)=some 1)(l:List UInt8)(hl:l.length=n)(hy:a.eval y=.agg (aL l)){k:IntKind}(d:Nat)(hx:a.eval x=.int k (d:Int))(hd:d<n)(h:wpList P ops Q rest (a.put o.dst (.int .u8 ((l.getD d 0).toNat:Int))) w):wpList P ops Q (o::rest) a w:=by
 refine bI hgd _ _ ?_ h;have hg:(aL l)[d]? = some (.int .u8 ((l.getD d 0).toNat:Int)):=tF l d (by omega);have hlt:d<(aL l).size:=by rw[eZ];omega
 have hpart:=I7 (P:=P) (w:=w) he l d (by omega);have hdi:(d:Int)<(n:Int):=by omega
 have hr:(Instr.index t (.agg (aL l)) (.int k (d:Int))).run P w=.ok (.int .u8 ((l.getD d 0).toNat:Int)) w:=by
  simp only[aL] at *
  obtain⟨i,hi',hs'⟩:=zA.1 hsz;simp[Instr.index,run_underlying ht,asIntOf,Result.andThen,hd,hdi,sizeOf,typeInfo,hi',hs',hpart]
 simp[execOp,ho,hy,hx,hr,Result.andThen]
end
theorem adY(b:UInt8):IntKind.i8.wrap (b.toNat:Int)=Ju b:=by
 unfold Ju;have:=sD b;simp[IntKind.wrap,IntKind.bits,IntKind.signed];split <;> split <;> omega
theorem KX(l:List UInt8)(hl:l.length=512)(w:World):Calls qp0 73 #[.agg (aL l)] w fun e w'=>e=.returned (.tuple #[.int .i64 (Plain.sum uby l),.int .i64 (Plain.sum Ju l)])/\Below w.heap.size w w':=by
 have HL:=ah hl;have h0:ko w 70 (l9 l 0) (w.alloc (.cells (aL l) 70)):=by rw[LJ];exact ko.new w _ _
 have H0:=ah h0;clear h0 hl;go_enter func73,ntmps73;go_wp2_with (with_reducible refine dO rfl _ _ rfl (aL l) rfl ?_)
 go_loopw [4] (fun i wr=>∃ k:Nat,k<=8/\i=.int .i64 (148+(k:Int))/\ko w 70 (l9 l k) wr) (fun i _=>156-(intOf i).toNat)
 case atStart=>exact⟨0,by omega,by go_num,H0.out⟩
 case round =>
  obtain⟨k,hk,rfl,hD⟩:=hrel;have hlen:=P7 l k (by rw[HL.out];omega);by_cases hlt:k<8
  .have hset:=OM l k (by rw[HL.out];omega);obtain⟨j,hj⟩:∃ j:Nat,148+(k:Int)=(j:Int):=⟨148+k,by omega⟩
   have hjk:148+k=j:=by omega
   have hcell:=hD.cell j (by rw[hlen,HL.out];omega);have hfz:=hD.ac8 j;have hD2:=hD.set j 32
   rw[<-hjk,hset,hjk] at hD2;have HD2:=ah hD2;have hj5:(j:Int)<512:=by omega
   have hj6:(j:Int)<156:=by omega
   clear hset hD hD2 hlen;go_wp2
   exact⟨⟨k+1,by omega,by go_num,HD2.out⟩,by simp[intOf];omega⟩
  .obtain rfl:k=8:=by omega
   have hrow:=hD.row;have hbel:=hD.bJ;have hbl:l9 l 8=blank l:=rfl;rw[hbl] at hrow hlen;have hs1:=GD uby l;have hs2:=GD Ju l;have hll:(blank l).length=512:=by rw[hlen];exact HL.out
   have HI:=ah (iL (blank l) hll);have agu:=ah hrow;have Ro:=ah hll;have HS1:=ah hs1;have HS2:=ah hs2;clear hrow hll hs1 hs2 hlen hbl hD;generalize blank l=m at *
   have hi:¬ (148+((8:Nat):Int))<156:=by omega
   go_wp2_with (with_reducible refine wpList_load_row rfl _ _ rfl w.heap.size rfl 70 (aL m) (0,0) _ agu.out underlying70 rfl HI.out ?_)
   go_loop [16,5,6] (fun i u s=>∃ k:Nat,k<=512/\i=.int .i64 k/\u=.int .i64 (kH uby (m.take k))/\s=.int .i64 (kH Ju (m.take k))) (fun i _ _=>512-(intOf i).toNat)
   case atStart=>exact⟨0,by omega,rfl,rfl,rfl⟩
   case round =>
    obtain⟨k,hk,rfl,rfl,rfl⟩:=hrel;by_cases hlt:k<512
    .have hu:=F3 uby m k (by rw[Ro.out];exact hlt);have hs:=F3 Ju m k (by rw[Ro.out];exact hlt);have b1:=DI uby DV m k (by omega);have b2:=DI Ju Xw m k (by omega);have hw:=adY (m.getD k 0);have c1:=IK (m.getD k 0);have c2:=V5 (m.getD k 0);have hub:uby (m.getD k 0)=((m.getD k 0).toNat:Int):=rfl;rw[hub] at hu c1;generalize hUU:kH uby (m.take (k+1))=U' at *
     generalize hVV:kH Ju (m.take (k+1))=S' at *
     generalize kH uby (m.take k)=U at *
     generalize kH Ju (m.take k)=S at *
     have hkk:(k:Int)<512:=by omega
     obtain⟨b11,b12⟩:=b1;obtain⟨b21,b22⟩:=b2;obtain⟨c11,c12⟩:=c1;obtain⟨c21,c22⟩:=c2;generalize hX:((m.getD k 0).toNat:Int)=X at *
     generalize Ju (m.getD k 0)=Y at *
     have HU:=ah (hUU.trans hu);have HSS:=ah (hVV.trans hs);have HX:=ah hX;clear hUU hVV hu hs hub hX;go_wp2_with (refine zy rfl _ _ _ rfl underlying70 underlying5 (by kernel_rfl) m Ro.out rfl k rfl hlt ?_;rw[HX.out])
     go_round
     case rel=>exact⟨k+1,by omega,by go_num,by rw[HU.out],by rw[HSS.out]⟩
     case measure=>simp[intOf];omega
    .obtain rfl:k=512:=by omega
     have e:m.take 512=m:=MU (by rw[Ro.out];exact aY _);rw[e];have hkk:¬ (512:Int)<512:=by omega
     go_wp2
     go_ret2;exact⟨by rw[HS1.out,HS2.out];rfl,hbel⟩
end
theorem TT(x y:Int)(h:x%256=0)(h0:0<=y)(h1:y<256):bits .or .i64 x y=IntKind.i64.wrap (x+y):=by
 obtain⟨b,rfl⟩:=Xq h0;have hb:b<2^8:=by omega
 obtain⟨m,hm⟩:∃ m:Nat,(x%((2^64:Nat):Int)).toNat=2^8*m:=⟨(x%((2^64:Nat):Int)).toNat / 256,by omega⟩
 have key:(BitVec.ofInt 64 x ||| BitVec.ofInt 64 (b:Int)).toNat=2^8*m+b:=by
  rw[BitVec.toNat_or,BitVec.toNat_ofInt,BitVec.toNat_ofInt,hm,show((b:Int)%((2^64:Nat):Int)).toNat=b by omega,Nat.two_pow_add_eq_or_of_lt hb]
 show IntKind.i64.wrap ((BitVec.ofInt 64 x ||| BitVec.ofInt 64 (b:Int)).toNat:Nat)=_;rw[key,IntKind.wrap_i64,IntKind.wrap_i64];omega
theorem ret_val{k:IntKind}{x y:Int}(h:x=y):Value.int k x=Value.int k y:=by rw[h]
theorem Lf(a:Option Addr)(n c:Nat)(l:List UInt8)(w:World)(h:Bs w a n c l)(hlow:l=[]\/(l.getD 0 0).toNat<128):Calls qp0 109 #[.slice a n c] w fun e w'=>e=.returned (nU (Plain.mW l))/\w=w':=by
 have hl:=h.len;have hcap:=h.cap;have hmax:=h.max;rw[Plain.Mw l hlow];by_cases h0:n=0
 .subst h0;go_enter func109,ntmps109;go_wp2
  go_ret2;exact⟨rfl,rfl⟩
 .have hc:=h.at 0 (by omega);have hg:(l.getD 0 0).toNat<128:=by
   rcases hlow with h1|h1
   .subst h1;simp at hl;omega
   .exact h1
  obtain⟨b,off,rfl,hc⟩:=hc;rw[R4] at hc;generalize hG:((l.getD 0 0).toNat:Int)=G at hc;have g1:G<128:=by omega
  have hn0:((n:Int)==0)=false:=by rw[beq_eq_false_iff_ne];omega
  have hn1:(0:Int)<n:=by omega
  have hn2:0<n:=by omega
  have HL:=ah hl;clear hl hG hlow h0;go_enter func109,ntmps109;go_wp2
  go_ret2;exact⟨rfl,rfl⟩
theorem Ie(a:Option Addr)(n c:Nat)(l:List UInt8)(w:World)(h:Bs w a n c l)(hne:0<l.length)(hhi:¬ (l.getD 0 0).toNat<128):Calls qp0 109 #[.slice a n c] w fun e w'=>e=.returned (nU (Plain.mW l))/\w=w':=by
 have hl:=h.len;have hcap:=h.cap;have hmax:=h.max;have hb:=Plain.OU l hne hhi;generalize Plain.mW l=r at *
 obtain⟨b,off,rfl,hc⟩:=h.at 0 (by omega);rw[R4] at hc;have hbh:2*(iK (l.getD 0 0))=wrap64 (IntKind.i8.wrap (((l.getD 0 0).toNat:Int)*2%256))/\-64<=iK (l.getD 0 0)/\iK (l.getD 0 0)<=63:=by
  have:=sD (l.getD 0 0);unfold iK;generalize l.getD 0 0=x at *
  simp[IntKind.wrap,IntKind.bits,IntKind.signed,wrap64];split <;> omega
 generalize iK (l.getD 0 0)=s at *
 generalize hG:((l.getD 0 0).toNat:Int)=G at hc hbh;have g1:128<=G:=by omega
 have g2:G<256:=by have:=sD (l.getD 0 0);omega
 have hn0:((n:Int)==0)=false:=by rw[beq_eq_false_iff_ne];omega
 have hn1:(1:Int)<=n:=by omega
 have hn2:0<n:=by omega
 have hcut:(l.take n).drop 1=l.drop 1:=by rw[MU (by omega)]
 have hml:(l.drop 1).length=n - 1:=by rw[zW];omega
 have HC:=ah hcut;have HBH:=ah hbh;have HB:=ah hb;have HML:=ah hml;clear hl hG hcut hbh hb hml hhi hne;go_enter func109,ntmps109;go_wp2_with (first|((with_reducible refine gI rfl _ _ _ _ rfl underlying22 (by kernel_rfl) rfl h 1 n .i64 .i64 rfl rfl (by omega) (by omega) ?_);intro a2 hb2;rw[HC.out] at hb2))
 clear h hc;go_loop [26,4] (fun i v=>∃ (k:Nat)(V:Int),k<=n - 1/\i=.int .i64 k/\v=.int .i64 V/\-9223372036854775808<=V/\V<=9223372036854775807/\Hid (dx s ((l.drop 1).take k)=V)) (fun i _=>n - 1-(intOf i).toNat)
 case atStart =>
  obtain⟨e1,e2,e3⟩:=HBH.out;exact⟨0,s,by omega,rfl,ret_val (by rw[<-e1];omega),by omega,by omega,ah (by rw[qct,jf])⟩
 case round =>
  obtain⟨k,V,hk,rfl,rfl,v1,v2,hV⟩:=hrel;by_cases hlt:k<n - 1
  .obtain⟨b1,off1,rfl,hc⟩:=hb2.at k hlt;have hstep:=zX s (l.drop 1) k (by rw[HML.out];exact hlt);have hout:V < -36028797018963968\/36028797018963967<V->r=(0,11):=fun ho=>by
    rw[HB.out,Qd s (l.drop 1) k (by rw[HML.out];exact hlt) (by rw[hV.out];exact ho)];rfl
   rw[hV.out] at hstep;generalize hX:(((l.drop 1).getD k 0).toNat:Int)=X at hc hstep;have x1:0<=X:=by omega
   have x2:X<256:=by have:=sD ((l.drop 1).getD k 0);omega
   have HST:=ah hstep;have HO:=ah hout;clear hstep hout hX hV;have hi:(k:Int)<((n - 1:Nat):Int):=by omega
   by_cases hin:V < -36028797018963968\/36028797018963967<V
   .obtain rfl:=HO.out hin;have q1:(V / 36028797018963968 != 0)=true:=by rw[bne_iff_ne];omega
    have q2:(V / 36028797018963968 != -1)=true:=by rw[bne_iff_ne];omega
    clear hin;go_wp2
    go_ret2;exact⟨rfl,rfl⟩
   .have hor:bits .or .i64 (V*256) X=V*256+X:=by
     rw[TT _ _ (by omega) x1 x2,IntKind.wrap_i64];omega
    have n1:-36028797018963968<=V:=by omega
    have n2:V<=36028797018963967:=by omega
    have n3:-9223372036854775808<=V*256:=by omega
    have n4:V*256<=9223372036854775807:=by omega
    clear hin;by_cases hneg:V<0
    .have q1:(V / 36028797018963968 != 0)=true:=by rw[bne_iff_ne];omega
     have q2:(V / 36028797018963968 != -1)=false:=by rw[bne_eq_false_iff_eq];omega
     go_wp2
     go_round
     case rel=>exact⟨k+1,V*256+X,by omega,by go_num,rfl,by omega,by omega,HST⟩
     case measure=>simp[intOf];omega
    .have q1:(V / 36028797018963968 != 0)=false:=by rw[bne_eq_false_iff_eq];omega
     go_wp2
     go_round
     case rel=>exact⟨k+1,V*256+X,by omega,by go_num,rfl,by omega,by omega,HST⟩
     case measure=>simp[intOf];omega
  .obtain rfl:k=n - 1:=by omega
   have hv:=hV.out;rw[MU (by rw[HML.out];exact aY _)] at hv;have hr:=HB.out;rw[hv,if_pos ((gM V).2 ⟨v1,v2⟩)] at hr;subst hr;have hi:¬ ((n - 1:Nat):Int)<((n - 1:Nat):Int):=by omega
   clear hv hV;go_wp2
   go_ret2;exact⟨rfl,rfl⟩
theorem MF(a:Option Addr)(n c:Nat)(l:List UInt8)(w:World)(h:Bs w a n c l):Calls qp0 109 #[.slice a n c] w fun e w'=>e=.returned (nU (Plain.mW l))/\w=w':=by
 by_cases hlow:l=[]\/(l.getD 0 0).toNat<128
 .exact Lf a n c l w h hlow
 .exact Ie a n c l w h (by cases l;exact absurd (.inl rfl) hlow;simp) (fun h=>hlow (.inr h))
def Yl(w:World)(b:Nat):Prop:=∀ x:UInt8,w.cell? ⟨b,x.toNat,none⟩=some (.bool (gX x))
theorem Ia(x:UInt8):[32,0].contains x=gX x:=by
 simp only[gX,List.contains_cons,List.contains_nil,Bool.or_false]
theorem FE(l:List UInt8)(b:Nat)(w:World)(hl:l.length<=140737488355328)(hg:Yl w b):Calls qp0 165 #[.string ⟨l.toArray⟩,.pointer (some ⟨b,0,none⟩)] w fun e w'=>e=.returned (.string ⟨(dM l).toArray⟩)/\w'=w:=by
 generalize hr:dM l=R;have HR:=ah hr;clear hr;have HG:=ah hg;clear hg;go_enter func165,ntmps165;go_wp2
 go_loop [0] (fun t=>∃ s:List UInt8,t=.string ⟨s.toArray⟩/\s.length<=140737488355328/\Hid (dM s=R)) (fun t=>match t with|.string x=>x.size|_=>0)
 case atStart=>exact⟨l,rfl,hl,HR⟩
 case round =>
  obtain⟨s,rfl,hs,ht⟩:=hrel;by_cases h0:s=[]
  .subst h0;obtain rfl:R=[]:=by rw[<-ht.out];rfl
   go_wp2
   go_ret;exact⟨rfl,rfl⟩
  .obtain⟨t,c,rfl⟩:∃ t c,s=t++[c]:=⟨s.dropLast,s.getLast h0,(qbS h0).symm⟩
   have hx:=oO (t++[c]) t.length (by simp);have hgd:(t++[c]).getD t.length 0=c:=by simp[List.getD]
   rw[hgd] at hx;have hlen:(t++[c]).length=t.length+1:=by simp
   have hext:(⟨(t++[c]).toArray⟩:ByteArray).extract 0 t.length=⟨t.toArray⟩:=by
    apply qb2;simp[qbB]
   have hst:t.length<=140737488355328:=by omega
   have Vi:=ah hext
   cases qc:gX c with
   | false =>
    have hcon:=Tryz.asciiSet_contains b c (gX c) w (HG.out c);rw[qc] at hcon;have HC:=ah hcon;have hRR:t++[c]=R:=by rw[<-G9 t c qc];exact ht.out
    have HRR:=ah hRR;clear hcon hRR hgd hext h0 qc;go_wp2_with (go_at_call 195;refine(HC.out).mono ?_;rintro e w1 ⟨rfl,hw⟩;obtain rfl:=hw.symm)
    go_ret;exact⟨by rw[<-HRR.out];rfl,rfl⟩
   | true =>
    have hcon:=Tryz.asciiSet_contains b c (gX c) w (HG.out c);rw[qc] at hcon;have HC:=ah hcon;have hRR:dM t=R:=by rw[<-Rq t c qc];exact ht.out
    have HRR:=ah hRR;clear hcon hRR hgd hext h0 qc;go_wp2_with (go_at_call 195;refine(HC.out).mono ?_;rintro e w1 ⟨rfl,hw⟩;obtain rfl:=hw.symm)
    rw[Vi.out];exact⟨⟨t,rfl,hst,HRR⟩,by simp[ByteArray.size]⟩
theorem Ls:∀ w,(zeroValue 223).run qp0 w=.ok (.agg (Array.replicate 256 (.bool false))) w:=fun w=>by kernel_rfl
theorem abA:(qp0.info? 223).map (·.size)=some (Lib.setCells [32,0]).size:=by rw[Lib.setCells_size];kernel_rfl
theorem abk:(qp0.info? 223).bind (·.zero)=some (.agg (Array.replicate 256 (.bool false))):=by kernel_rfl
theorem acv:∀ u∈(Lib.setCells [32,0]).toList,u.oneCell'=true:=by
 intro u hu;have h:=Lib.setCells_one [32,0];generalize Lib.setCells [32,0]=A at *
 rw[YF] at h;obtain⟨i,hi,rfl⟩:=qbz hu;exact h i (by simpa using hi)
theorem OA(w1:World):Yl (w1.alloc (.cells (Lib.setCells [32,0]) 223)) w1.heap.size:=fun x=>by
 rw[World.cell?_alloc_new,Lib.setCells_at,Ia]
theorem JR(l:List UInt8)(w:World)(hl:l.length<=140737488355328):Calls qp0 129 #[.string ⟨l.toArray⟩,.string ⟨#[32,0]⟩] w fun e w'=>e=.returned (.string ⟨(dM l).toArray⟩)/\Below w.heap.size w w':=by
 by_cases h0:l=[]
 .subst h0;go_enter func129,ntmps129;go_wp2
  go_ret;exact⟨rfl,Below.refl _ _⟩
 .have Zw:l.isEmpty=false:=by simpa using h0
  have hasc:∀ (j:Nat) b,[(32:UInt8),0][j]? = some b->b.toNat<128:=by
   intro j b hj
   match j,hj with
   | 0,hj=>cases hj;decide
   | 1,hj=>cases hj;decide
  have HM:=ah (Tryz.strings_makeASCIISet Ls ⟨#[32,0]⟩ w (by decide) hasc);generalize hR:dM l=R;have HR:=ah hR;have HZ:=ah abk;have qj:=ah abA;have HO:Hid (∀ u∈(Lib.setCells [32,0]).toList,u.oneCell'=true):=ah (acv);go_enter func129,ntmps129;clear hR;go_wp2_with (first|(go_at_call 164;refine(HM.out).mono ?_;rintro e w1 ⟨rfl,hw⟩;have HW:=ah hw;clear hw)|(with_reducible refine bV rfl _ rfl (Array.replicate 256 (.bool false)) HZ.out ?_)|((with_reducible refine kC rfl _ _ _ rfl _ rfl (Lib.setCells [32,0]) rfl ?_ (by rw[Lib.setCells_size,Array.size_replicate]) qj.out HO.out ?_);· simp)|(go_at_call 165;refine(FE l _ _ hl (by exact OA w1)).mono ?_;rintro e w3 ⟨rfl,hw⟩;obtain rfl:=hw.symm;rw[HR.out]))
  go_ret;refine⟨rfl,?_⟩;rw[HW.out];exact((Below.refl _ _).alloc (aY _) _).alloc (by simp) _
