/- J01 -/
import Derived.Test.YtdbgldieilgnmaaGreatDoorJ00
import Derived.WalkSpells
import Derived.BigQuiet
import Derived.Test.YtdbgldieilgnmaaGreatDoorSh
import Derived.Lib.SmallJoins
import Derived.Conc.Beside
set_option linter.unusedVariables false
set_option linter.unusedSimpArgs false
set_option maxHeartbeats 8000000
set_option maxRecDepth 100000
namespace Go.Proofs.YtdbgldieilgnmaaGreatDoor
open Go.Proofs.Tryz
open Go.Proofs.Tryz renaming prog → qp0
open Go.ChangeShapes Go.WideShapes Go.ChangeAt Go.RowKit
section
def jJ(b:UInt8):Value:=.int .u8 (b.toNat:Int)
def Cs(w:World)(a:Option Addr)(xs:List Value):Prop:=∀ j v,xs[j]? = some v->∃ x:Addr,a=some x/\w.cell? (x.add j)=some v
def wh(w:World)(sz:Nat)(a:Option Addr)(n cap:Nat)(xs:List Value):Prop:=xs.length=n*sz/\n<=cap/\cap<=maxLen/\Cs w a xs/\(a=none->n=0/\cap=0)
def Bs(w:World)(a:Option Addr)(n cap:Nat)(l:List UInt8):Prop:=wh w 1 a n cap (l.map jJ)
def Keeps(w w':World):Prop:=∀ p v,w.cell? p=some v->w'.cell? p=some v
theorem Keeps.refl(w:World):Keeps w w:=fun _ _ h=>h
theorem Keeps.trans{a b c:World}(h:Keeps a b)(k:Keeps b c):Keeps a c:=fun p v hv=>k p v (h p v hv)
theorem Below.keeps{w w':World}(h:Below w.heap.size w w'):Keeps w w':=fun p v hv=>by
 rw[h.cell (World.block_lt_of_cell? (w:=w) (a:=p) hv)];exact hv
theorem Keeps.cs{w w':World}{a:Option Addr}{xs:List Value}(k:Keeps w w')(h:Cs w a xs):Cs w' a xs:=fun j v hj=>by
 obtain⟨x,hx,hc⟩:=h j v hj;exact⟨x,hx,k _ _ hc⟩
theorem Keeps.sl{w w':World}{sz:Nat}{a:Option Addr}{n cap:Nat}{xs:List Value}(k:Keeps w w')(h:wh w sz a n cap xs):wh w' sz a n cap xs:=⟨h.1,h.2.1,h.2.2.1,k.cs h.2.2.2.1,h.2.2.2.2⟩
theorem Keeps.bs{w w':World}{a:Option Addr}{n cap:Nat}{l:List UInt8}(k:Keeps w w')(h:Bs w a n cap l):Bs w' a n cap l:=k.sl h
theorem Below.bs{w w':World}{a:Option Addr}{n cap:Nat}{l:List UInt8}(k:Below w.heap.size w w')(h:Bs w a n cap l):Bs w' a n cap l:=(Below.keeps k).sl h
theorem Keeps.alloc(w:World)(o:Obj):Keeps w (w.alloc o):=fun p v hv=>by
 rw[World.cell?_alloc_lt w o p (World.block_lt_of_cell? (w:=w) (a:=p) hv)];exact hv
theorem Keeps.drewN(w:World)(n:Nat):Keeps w (w.drewN n):=fun _ _ h=>h
theorem Below.drewN{B:Nat}{a w:World}(h:Below B a w)(n:Nat):Below B a (w.drewN n):=⟨h.os,h.tape,h.output,h.size,h.block⟩
theorem Below.seq{w0 w w':World}(h:Below w0.heap.size w0 w)(k:Below w.heap.size w w'):Below w0.heap.size w0 w':=h.trans (k.mono h.size)
theorem Bs.len{w:World}{a:Option Addr}{n cap:Nat}{l:List UInt8}(h:Bs w a n cap l):l.length=n:=by have:=h.1;simpa using this
theorem Bs.cap{w:World}{a:Option Addr}{n cap:Nat}{l:List UInt8}(h:Bs w a n cap l):n<=cap:=h.2.1
theorem Bs.max{w:World}{a:Option Addr}{n cap:Nat}{l:List UInt8}(h:Bs w a n cap l):cap<=9223372036854775807:=h.2.2.1
theorem Cs.at{w:World}{a:Option Addr}{xs:List Value}(h:Cs w a xs)(k:Nat)(v:Value)(hk:xs[k]? = some v):∃ b off,a=some ⟨b,off,none⟩/\w.cell? ⟨b,off+k,none⟩=some v:=by
 obtain⟨⟨b,off,sp⟩,rfl,hc⟩:=h k v hk;by_cases h0:k=0
 .subst h0;have hs:sp=none:=by
   simp only[Addr.add,if_true] at hc;simpa using World.cell?_spot hc
  subst hs;exact⟨b,off,rfl,by simpa[Addr.add] using hc⟩
 .have h0':xs[0]?.isSome=true:=by
   have hl:k<xs.length:=(qbl.1 hk).1;simp;omega
  obtain⟨v0,hv0⟩:=qbM.1 h0';obtain⟨x,hx,hc0⟩:=h 0 v0 hv0
  cases hx
  have hs:sp=none:=by
   simp only[Addr.add,if_true] at hc0;simpa using World.cell?_spot hc0
  subst hs;exact⟨b,off,rfl,by simpa[Addr.add,h0] using hc⟩
theorem Bs.at{w:World}{a:Option Addr}{n cap:Nat}{l:List UInt8}(h:Bs w a n cap l)(k:Nat)(hk:k<n):∃ b off,a=some ⟨b,off,none⟩/\w.cell? ⟨b,off+k,none⟩=some (.int .u8 ((l.getD k 0).toNat:Int)):=by
 refine h.2.2.2.1.at k _ ?_;have hl:=h.len;have:k<l.length:=by omega
 simp[List.getD,kM this,jJ]
theorem kY(l:List UInt8):∀ u∈l.map jJ,u.oneCell'=true:=by
 intro u hu;obtain⟨_,_,rfl⟩:=ZW.1 hu;rfl
theorem rP{w:World}{base:Nat}{e:TypeId}{sz:Nat}{a:Option Addr}{n c:Nat}{xs:List Value}(h:w.ownsRow base e sz (.slice a n c) n xs):wh w sz a n c xs:=by
 obtain⟨hl,h⟩:=h;rcases h with⟨hv,h0⟩|⟨g,cap,cur,hv,hb,hh,hn,hm,hs,ht⟩
 .simp only[Value.slice.injEq] at hv;obtain⟨rfl,rfl,rfl⟩:=hv;have:xs=[]:=O8 (by simpa using hl);subst this;exact⟨by simp,aY _,by unfold maxLen;omega,fun j v hj=>by simp at hj,fun _=>⟨rfl,rfl⟩⟩
 .simp only[Value.slice.injEq,true_and] at hv;obtain⟨rfl,rfl⟩:=hv;refine⟨hl,hn,hm,fun j v hj=>⟨_,rfl,?_⟩,fun h=>by cases h⟩;rw[Addr.add_lit];simp only[World.cell?,hh,lU];rw[<-ht] at hj;have hj':=hj;rw[VX] at hj';split at hj'
  .simpa using hj'
  .cases hj'
theorem yT{w:World}{base:Nat}{e:TypeId}{sz:Nat}{v:Value}{n:Nat}{xs:List Value}(h:w.ownsRow base e sz v n xs):∃ a c,v=.slice a n c:=by
 obtain⟨_,h⟩:=h;rcases h with⟨hv,h0⟩|⟨g,cap,cur,hv,_⟩
 .exact⟨none,0,by rw[hv,h0]⟩
 .exact⟨_,_,hv⟩
theorem pq(w:World)(e:TypeId)(sz n:Nat)(cs:Array Value)(h:cs.size=n*sz)(hm:n<=maxLen):wh (w.alloc (.cells cs e)) sz (some ⟨w.heap.size,0,none⟩) n n cs.toList:=by
 refine⟨by simpa using h,aY _,hm,fun j v hj=>⟨_,rfl,?_⟩,fun h=>by cases h⟩;rw[Addr.add_lit,lU,World.cell?_alloc_new];simpa using hj
theorem Sg(w:World)(e:TypeId)(sz n:Nat)(cs:Array Value)(fr:Nat×Nat)(h:cs.size=n*sz)(hm:n<=maxLen):wh (w.alloc (.cells cs e fr)) sz (some ⟨w.heap.size,0,none⟩) n n cs.toList:=by
 refine⟨by simpa using h,aY _,hm,fun j v hj=>⟨_,rfl,?_⟩,fun h=>by cases h⟩;rw[Addr.add_lit,lU,World.cell?_alloc_mark];simpa using hj
theorem below_app{B base:Nat}{w0 w w':World}{e:TypeId}{sz:Nat}{v:Value}{n:Nat}{xs:List Value}(h:Below B w0 w)(ho:w.ownsRow base e sz v n xs)(hg:w.grownBy w' v.ownBlock)(h1:B<=base)(h2:B<=w.heap.size):Below B w0 w' :=h.grown hg h2 fun k hk=>by have:=(ho.lt k hk).1;omega
section laws
variable {P:Program}{ops:Array Oper}{rest:List Oper}{o:Oper}{a:Act}{w:World}{Q:Exit->Act->World->Prop}
theorem bI(hg:o.guard=none)(v:Value)(w':World)(h:(execOp a.eval o).run P w=.ok (.value v) w')(hk:wpList P ops Q rest (a.put o.dst v) w'):wpList P ops Q (o::rest) a w :=wpList_plain hg fun K hK=>by unfold Oper.wp;rw[h];exact hK _ _ hk
theorem nJ(hgd:o.guard=none)(s x:Operand)(t:TypeId)(ho:o.op=.call {callee:=.builtin .append,args:=#[s,x],argTypes:=#[t,t]})(base:Nat)(e:TypeId)(z:Value)(sz bytes:Nat)(ht:P.underlying t=some (.slice e))(hi:(P.info? e).map (fun i=>(i.zero,i.size,i.bytes))=some (some z,sz,bytes))(hzs:z.cells.size=sz)(hsz:0<sz)(hb0:0<bytes){a1:Option Addr}{n c1:Nat}{xs:List Value}(hs:a.eval s=.slice a1 n c1)(hown:w.ownsRow base e sz (.slice a1 n c1) n xs){a2:Option Addr}{m c2:Nat}{news:List Value}(hx:a.eval x=.slice a2 m c2)(hsrc:wh w sz a2 m c2 news)(h1:∀ u∈news,u.oneCell'=true)(hbytes:(n+m)*bytes<=140737488355328)(hbase:base<=w.heap.size)(h:∀ a' c' w',w'.ownsRow base e sz (.slice a' (n+m) c') (n+m) (xs++news)->w.grownBy w' (Value.slice a1 n c1).ownBlock->wpList P ops Q rest (a.put o.dst (.slice a' (n+m) c')) w'):wpList P ops Q (o::rest) a w:=by
 obtain⟨i,hi,hz0,hz1,hz2⟩:=info_parts hi
 cases a2 with
 | none =>
  obtain⟨rfl,rfl⟩:=hsrc.2.2.2.2 rfl;have hnews:news=[]:=O8 (by simpa using hsrc.1);subst hnews;refine wpList_plain hgd fun K hK'=>?_
  have hrun:=run_append_owned_none (P:=P) w base t o.type e i sz ht hi _ n xs hown;unfold Oper.wp;simp[execOp,ho,resolve,invoke,builtin,hs,hx,hrun,Result.andThen];exact hK' _ _ (by simpa using h a1 c1 w (by simpa using hown) (World.grownBy.refl _ _))
 | some ad =>
  have hle:n+m<=(n+m)*bytes:=qca _ hb0;refine wpList_append_own w hgd s x t ho base e i z sz bytes ht hi hz0 hz1 hz2 hzs hsz _ n xs hs hown ad m c2 news hx hsrc.1 (fun j u hj=>?_) h1 (by unfold maxLen;omega) hbytes hbase (fun v' w' h2 h3 _=>?_)
  .obtain⟨x,hx,hc⟩:=hsrc.2.2.2.1 j u hj
   cases hx
   exact hc
  .obtain⟨a',c',rfl⟩:=yT h2;exact h a' c' w' h2 h3
theorem aT(hgd:o.guard=none)(src dst:TypeId)(x:Operand)(ho:o.op=.convert src dst x){e:TypeId}(hs:P.underlying src=some (.slice e))(he:P.underlying e=some (.int .u8))(hd:P.underlying dst=some .string){ao:Option Addr}{n c:Nat}{l:List UInt8}(hx:a.eval x=.slice ao n c)(hb:Bs w ao n c l)(h:wpList P ops Q rest (a.put o.dst (.string ⟨l.toArray⟩)) w):wpList P ops Q (o::rest) a w:=by
 refine bI hgd (.string ⟨l.toArray⟩) w ?_ h;have hr:(convert src dst (.slice ao n c)).run P w=.ok (.string ⟨l.toArray⟩) w:=by
  cases ao with
  | none =>
   obtain⟨rfl,rfl⟩:=hb.2.2.2.2 rfl;have:l=[]:=O8 hb.len;subst this;exact run_convert_bytes_nil w src e hs he 0 0 dst hd
  | some ad =>
   obtain rfl:=hb.len;exact run_convert_bytes_back w src dst e ad c l hs he hd (fun j hj=>by
    obtain⟨x,hx,hc⟩:=hb.2.2.2.1 j (jJ l[j]) (by simp[kM hj])
    cases hx
    exact hc)
 simp[execOp,ho,hx,hr,Result.andThen]
theorem bytesWorld_below(w:World)(e:TypeId)(s:ByteArray):Below w.heap.size w (Lib.bytesWorld w e s) :=⟨by simp[Lib.bytesWorld,World.freeze];rfl,by simp[Lib.bytesWorld,World.freeze],by simp[Lib.bytesWorld,World.freeze];rfl,by rw[Lib.bytesWorld_size];omega,fun k hk=>Lib.bytesWorld_at_old w e s k hk⟩
theorem FC(w:World)(e:TypeId)(l:List UInt8)(h:l.length<=140737488355328):Bs (Lib.bytesWorld w e ⟨l.toArray⟩) (some ⟨w.heap.size,0,none⟩) l.length (grownCap w l.length 0 e) l:=by
 refine⟨by simp,grownCap_ge w _ 0 e,grownCap_le_maxLen w _ 0 e (by unfold maxLen;omega),fun j v hj=>⟨_,rfl,?_⟩,fun h=>by cases h⟩;rw[Addr.add_lit,lU];have hjl:j<l.length:=by have:=(qbl.1 hj).1;simpa using this
 rw[Lib.bytesWorld_cell w e ⟨l.toArray⟩ j (by simpa[ByteArray.size] using hjl)];simp[kM hjl] at hj;subst hj;simp[List.getD,kM hjl,jJ]
theorem H9{w:World}{ao:Option Addr}{n c:Nat}{l:List UInt8}(hb:Bs w ao n c l)(lo hi:Nat)(h1:lo<=hi)(h2:hi<=n):Bs w (if c=lo then ao else ao.map (·.add (lo*1))) (hi-lo) (c-lo) ((l.take hi).drop lo):=by
 have hl:=hb.len;have hc:=hb.cap;have hm:=hb.max;refine⟨by simp;omega,by omega,by unfold maxLen;omega,fun j v hj=>?_,fun hn=>?_⟩
 .simp only[qce,qbZ,qbE,VX] at hj;split at hj
  .rename_i hlt
   obtain⟨x,hx,hcell⟩:=hb.2.2.2.1 (lo+j) v hj;subst hx;have hne:¬ c=lo:=by omega
   rw[if_neg hne];refine⟨x.add (lo*1),rfl,?_⟩;rw[Go.Deep.add_add,qbK];exact hcell
  .cases hj
 .split at hn
  .obtain⟨h3,h4⟩:=hb.2.2.2.2 hn;omega
  .have:ao=none:=by cases ao <;> simp_all
   obtain⟨h3,h4⟩:=hb.2.2.2.2 this;omega
theorem gI(hgd:o.guard=none)(t:TypeId)(x:Operand)(lo hi:Option Operand)(ho:o.op=.slice t x lo hi none){e:TypeId}(ht:P.underlying t=some (.slice e))(hsz:(P.info? e).map (·.size)=some 1){ao:Option Addr}{n c:Nat}{l:List UInt8}(hx:a.eval x=.slice ao n c)(hb:Bs w ao n c l)(L M:Nat)(k1 k2:IntKind)(hL:match lo with|some p=>a.eval p=.int k1 (L:Int)|none=>L=0)(hM:match hi with|some p=>a.eval p=.int k2 (M:Int)|none=>M=n)(h1:L<=M)(h2:M<=n)(h:∀ a',Bs w a' (M-L) (c-L) ((l.take M).drop L)->wpList P ops Q rest (a.put o.dst (.slice a' (M-L) (c-L))) w):wpList P ops Q (o::rest) a w:=by
 have hcap:=hb.cap;refine bI hgd _ _ ?_ (h _ (H9 hb L M h1 h2));obtain⟨i,hi',hs'⟩:=zA.1 hsz;have e1:(L:Int)<=M:=by omega
 have e2:(M:Int)<=c:=by omega
 have e3:(n:Int)<=c:=by omega
 have e4:(L:Int)<=n:=by omega
 have f2:M<=c:=by omega
 have f4:L<=n:=by omega
 cases lo <;> cases hi <;> simp only at hL hM
 all_goals first|subst hL|skip
 all_goals first|subst hM|skip
 all_goals simp[execOp,Instr.sliceAt,Instr.slice,Instr.sliceBounds,Instr.sliceBound,run_underlying ht,sizeOf,typeInfo,asIntOf,Result.andThen, *]
end laws
theorem yx{α:Type}{f:α->List Value}{sz:Nat}(hf:∀ x,(f x).length=sz):∀ (l:List α)(k j:Nat)(hk:k<l.length),j<sz->(l.flatMap f)[k*sz+j]? = (f l[k])[j]?
 | [],k,j,hk,_=>by simp at hk
 | x::l,0,j,_,hj=>by simp[qbr,qbm,hf x,hj]
 | x::l,k+1,j,hk,hj=>by
  have ih:=yx hf l k j (by simpa using hk) hj;rw[qbr,qb0 (by rw[hf x,qcu];omega),hf x];have e:(k+1)*sz+j-sz=k*sz+j:=by rw[qcu];omega
  rw[e,ih];rfl
theorem Kh{α:Type}{f:α->List Value}{sz:Nat}(hf:∀ x,(f x).length=sz)(l:List α):(l.flatMap f).length=l.length*sz:=by
 induction l with
 | nil=>simp
 | cons x l ih=>rw[qbr,vG,hf x,ih,oH,qcu];omega
theorem aax{k:IntKind}{a b:Int}(h:a=b):Ending.returned (.int k a)=.returned (.int k b):=by rw[h]
theorem yw{a b:Bool}(h:a=b):Ending.returned (.bool a)=.returned (.bool b):=by rw[h]
theorem aat{a b:ByteArray}(h:a=b):Ending.returned (.string a)=.returned (.string b):=by rw[h]
theorem ab6{α:Type}[BEq α][LawfulBEq α]{a b:α}(h:¬ a=b):(a != b)=true:=by simp[h]
theorem Rf{α:Type}[BEq α][LawfulBEq α]{a b:α}(h:a=b):(a != b)=false:=by simp[h]
theorem uQ{p:Prop}[Decidable p](h:p):decide p=true:=by simp[h]
theorem uU{p:Prop}[Decidable p](h:¬ p):decide p=false:=by simp[h]
theorem EW{l m:List UInt8}(h:l.length=m.length)(hk:∀ k,k<l.length->l.getD k 0=m.getD k 0):l=m:=by
 apply List.ext_getElem h;intro i h1 h2;have:=hk i h1;simpa[List.getD,kM h1,kM h2] using this
theorem oO(l:List UInt8)(k:Nat)(h:k<l.length):(⟨l.toArray⟩:ByteArray)[k]'(by simpa[ByteArray.size] using h)=l.getD k 0:=by
 simp[ByteArray.getElem_eq_getElem_data,List.getD,kM h]
theorem sD(b:UInt8):(b.toNat:Int)<256:=by have:=b.toNat_lt;omega
end
section
open Go.Lib
def bg(c:UInt8):Bool:=decide (48<=c.toNat/\c.toNat<=57)
theorem jy(c:UInt8):bg c=true↔48<=c.toNat/\c.toNat<=57:=by simp[bg]
def bD(v:Nat)(l:List UInt8):Nat:=l.foldl (fun v c=>v*10+(c.toNat - 48)) v
theorem lJ(v:Nat)(c:UInt8)(l:List UInt8):bD v (c::l)=bD (v*10+(c.toNat - 48)) l:=by simp only[bD,Xu]
theorem qF(v:Nat):bD v []=v:=by simp only[bD,List.foldl_nil]
theorem Dg(v:Nat)(a b:List UInt8):bD v (a++b)=bD (bD v a) b:=by simp[bD,qbd]
theorem NU(v:Nat)(a:List UInt8)(c:UInt8):bD v (a++[c])=bD v a*10+(c.toNat - 48):=by rw[Dg,lJ,qF]
theorem zf:∀ (l:List UInt8)(v:Nat),v<=bD v l
 | [],v=>by rw[qF];exact aY v
 | c::l,v=>by rw[lJ];have:=zf l (v*10+(c.toNat - 48));omega
theorem wV(M:Nat)(hM:M=18446744073709551615)(l:List UInt8):∀ (acc:Nat),l.all bg=true->acc<=M->parseUintM M acc l=if bD acc l<=M then .ok (bD acc l) else .range:=by
 induction l with
 | nil =>
  intro acc _ h;rw[parseUintM,qF,if_pos h]
 | cons c l ih =>
  intro acc hd h;rw[JJ,fE,jy] at hd;have hle:=zf l (acc*10+(c.toNat - 48));rw[parseUintM,if_pos hd.1,lJ];by_cases h1:1844674407370955162<=acc
  .rw[if_pos h1,if_neg (by omega)]
  .rw[if_neg h1];by_cases h2:M<acc*10+(c.toNat - 48)
   .rw[if_pos h2,if_neg (by omega)]
   .rw[if_neg h2];exact ih _ hd.2 (by omega)
theorem yP(l:List UInt8)(hne:l≠[])(hd:l.all bg=true):parseIntB 64 l=if bD 0 l<=9223372036854775807 then .ok ((bD 0 l:Nat):Int) else .range:=by
 cases l with
 | nil=>exact absurd rfl hne
 | cons c r =>
  have hc:=hd;rw[JJ,fE,jy] at hc;have n1:¬ (c.toNat=43\/c.toNat=45):=by omega
  have n2:¬ c.toNat=45:=by omega
  have hu:parseUintB 64 (c::r)=if bD 0 (c::r)<=18446744073709551615 then .ok (bD 0 (c::r)) else .range:=by
   rw[parseUintB,if_neg (by simp)];exact wV (2^64 - 1) (by decide) (c::r) 0 hd (M8 _)
  unfold parseIntB;simp only[if_neg n1,hu];by_cases h1:bD 0 (c::r)<=18446744073709551615
  .simp only[if_pos h1];by_cases h2:bD 0 (c::r)<=9223372036854775807
   .rw[if_pos h2,if_neg (by omega),if_neg (by omega),if_neg n2]
   .rw[if_neg h2,if_pos (by omega)]
  .simp only[if_neg h1];rw[if_neg (by omega)]
def Plain.decimal(l:List UInt8):Int×Int :=
 if l=[]\/(l.getD 0 0=48/\1<l.length)\/l.all bg=false then(0,10)
 else if bD 0 l<=9223372036854775807 then(((bD 0 l:Nat):Int),0) else(0,11)
theorem IY(u:Nat):decDigits u≠[]:=by
 rw[decDigits];split <;> simp
def nU(r:Int×Int):Value:=.tuple #[.int .i64 r.1,.int .i64 r.2]
end
theorem Plain.gu(l:List UInt8)(h:l=[]\/(l.getD 0 0=48/\1<l.length)\/l.all bg=false):Plain.decimal l=(0,10):=if_pos h
theorem Plain.xE(l:List UInt8)(h:¬ (l=[]\/(l.getD 0 0=48/\1<l.length)\/l.all bg=false))(h2:bD 0 l<=9223372036854775807):Plain.decimal l=(((bD 0 l:Nat):Int),0):=by
 unfold Plain.decimal;rw[if_neg h,if_pos h2]
theorem Plain.xJ(l:List UInt8)(h:¬ (l=[]\/(l.getD 0 0=48/\1<l.length)\/l.all bg=false))(h2:¬ bD 0 l<=9223372036854775807):Plain.decimal l=(0,11):=by
 unfold Plain.decimal;rw[if_neg h,if_neg h2]
theorem wC(l:List UInt8)(k:Nat)(h:k<l.length)(ih:(l.take k).all bg=true)(hd:48<=(l.getD k 0).toNat/\(l.getD k 0).toNat<=57):(l.take (k+1)).all bg=true:=by
 have hg:l.getD k 0=l[k]:=by simp[List.getD,kM h]
 have h1:bg (l.getD k 0)=true:=(jy _).2 hd;rw[Nh h,qcp,ih,<-hg,JJ,h1];rfl
theorem Em(l:List UInt8)(k:Nat)(h:k<l.length)(hd:¬ (48<=(l.getD k 0).toNat/\(l.getD k 0).toNat<=57)):l.all bg=false:=by
 have hg:l.getD k 0=l[k]:=by simp[List.getD,kM h]
 cases ha:l.all bg with
 | false=>rfl
 | true =>
  have:=(Ej.1 ha) l[k] (VE h);rw[jy,<-hg] at this;exact absurd this hd
theorem LH(l:List UInt8)(k:Nat)(h:k<l.length):bD 0 (l.take (k+1))=bD 0 (l.take k)*10+((l.getD k 0).toNat - 48):=by
 have hg:l.getD k 0=l[k]:=by simp[List.getD,kM h]
 rw[Nh h,NU,hg]
theorem C9(l:List UInt8)(k:Nat):bD 0 (l.take k)<=bD 0 l:=by
 have h:=Dg 0 (l.take k) (l.drop k);rw[qbh] at h;rw[h];exact zf _ _
theorem ad8(l:List UInt8)(k:Nat)(h:k<l.length)(ha:l.all bg=true):48<=(l.getD k 0).toNat/\(l.getD k 0).toNat<=57:=by
 have hg:l.getD k 0=l[k]:=by simp[List.getD,kM h]
 rw[hg,<-jy];exact(Ej.1 ha) l[k] (VE h)
theorem BF(l:List UInt8)(h:¬ (l.getD 0 0=48/\1<l.length)):(((l.getD 0 0).toNat:Int)==48)=false\/(l.getD 0 0=48/\¬ 1<(l.length:Int)):=by
 by_cases h1:l.getD 0 0=48
 .exact .inr ⟨h1,fun h2=>h ⟨h1,by omega⟩⟩
 .refine .inl ?_;rw[beq_eq_false_iff_ne];intro h2;exact h1 (VL.1 (by simpa using(by omega:(l.getD 0 0).toNat=48)))
theorem MI(l:List UInt8)(h:¬ (l.getD 0 0=48/\1<l.length)):¬ 1<(l.length:Int)\/(1<(l.length:Int)/\(((l.getD 0 0).toNat:Int)==48)=false):=by
 rcases BF l h with h1|h1
 .by_cases h2:1<(l.length:Int)
  .exact .inr ⟨h2,h1⟩
  .exact .inl h2
 .exact .inl h1.2
theorem VF(l:List UInt8)(w:World)(hl:l.length<=140737488351232):Calls qp0 157 #[.string ⟨l.toArray⟩] w fun e w'=>e=.returned (nU (Plain.decimal l))/\w=w':=by
 by_cases c1:l=[]
 .subst c1;rw[Plain.gu [] (.inl rfl)];go_enter func157,ntmps157;go_wp2
  go_ret2;exact⟨rfl,rfl⟩
 .have Zw:l.isEmpty=false:=by simpa using c1
  have c0:0<l.length:=by cases l;exact absurd rfl c1;simp
  have hx0:=oO l 0 c0;by_cases c2:l.getD 0 0=48/\1<l.length
  .rw[Plain.gu l (.inr (.inl c2))];have h1:1<(l.length:Int):=by omega
   rw[c2.1] at hx0;clear c2;go_enter func157,ntmps157;go_wp2
   go_ret2;exact⟨rfl,rfl⟩
  .have hbad:l.all bg=true->¬ (l=[]\/(l.getD 0 0=48/\1<l.length)\/l.all bg=false):=by
    rintro ha (h|h|h)
    .exact c1 h
    .exact c2 h
    .rw[ha] at h;cases h
   have HBAD:=ah hbad;clear hbad;have hh:=BF l c2;generalize hr:Plain.decimal l=r;have HR:=ah hr;clear hr;clear c1 c2;generalize l.getD 0 0=g0 at hx0 hh;rcases hh with hh|⟨rfl,hh⟩
   all_goals
    go_enter func157,ntmps157;go_wp2
    go_loop [4] (fun i=>∃ k:Nat,k<=l.length/\i=.int .i64 k/\Hid ((l.take k).all bg=true)) (fun i=>l.length-(intOf i).toNat)
    case atStart=>exact⟨0,by omega,rfl,(rfl:(l.take 0).all bg=true)⟩
    case round =>
     obtain⟨k,hk,rfl,hz⟩:=hrel;by_cases hlt:k<l.length
     .have hkn:(k:Int)<(l.length:Int):=by omega
      have hx:=oO l k hlt;have hstep:=wC l k hlt hz.out;have hno:=Em l k hlt;generalize l.getD k 0=g at hx hstep hno;have HS:=ah hstep;have VZ:=ah hno;clear hstep hno;by_cases d1:(g.toNat:Int)<48
      .have hf:=(HR.out.symm.trans (Plain.gu l (.inr (.inr (VZ.out (by omega))))));subst hf;go_wp2
       go_ret2;exact⟨rfl,rfl⟩
      .by_cases d2:(57:Int)<g.toNat
       .have hf:=(HR.out.symm.trans (Plain.gu l (.inr (.inr (VZ.out (by omega))))));subst hf;go_wp2
        go_ret2;exact⟨rfl,rfl⟩
       .have hs:=ah (HS.out (by omega));go_wp2
        go_round
        case rel=>exact⟨k+1,by omega,by go_num,hs⟩
        case measure=>simp[intOf];omega
     .obtain rfl:k=l.length:=by omega
      have hall:l.all bg=true:=by have:=hz.out;rwa [qbA] at this
      have KA:=ah hall;clear hall hz;go_wp2
      go_loop [6,5] (fun i v=>∃ j:Nat,j<=l.length/\i=.int .i64 j/\v=.int .i64 (bD 0 (l.take j):Nat)/\bD 0 (l.take j)<=9223372036854775807) (fun i _=>l.length-(intOf i).toNat)
      case atStart=>exact⟨0,by omega,rfl,rfl,by simp[bD]⟩
      case round =>
       obtain⟨j,hj,rfl,rfl,hv⟩:=hrel;by_cases hlt2:j<l.length
       .have hjn:(j:Int)<(l.length:Int):=by omega
        have hx:=oO l j hlt2;have hdig:=ad8 l j hlt2 KA.out;have hst:=LH l j hlt2;have hle:=C9 l (j+1);generalize bD 0 (l.take j)=v at *
        generalize aey:bD 0 (l.take (j+1))=v2 at *
        have HV2:=ah aey;clear aey;generalize l.getD j 0=g at *
        by_cases hov:v2<=9223372036854775807
        .have ahA:(48:Int)<=g.toNat:=by omega
         have agB:(g.toNat:Int)<=57:=by omega
         have hno:¬ (9223372036854775807-((g.toNat:Int) - 48)) / 10<v:=by omega
         have hb1:(v:Int)*10+((g.toNat:Int) - 48)<=9223372036854775807:=by omega
         go_wp2
         exact⟨⟨j+1,by omega,by go_num,by rw[HV2.out,hst];congr 1;omega,by rw[HV2.out];exact hov⟩,by simp[intOf];omega⟩
        .have ahA:(48:Int)<=g.toNat:=by omega
         have agB:(g.toNat:Int)<=57:=by omega
         have hyes:(9223372036854775807-((g.toNat:Int) - 48)) / 10<v:=by omega
         have hf:=HR.out.symm.trans (Plain.xJ l (HBAD.out KA.out) (by omega));subst hf;go_wp2
         go_ret2;exact⟨rfl,rfl⟩
       .obtain rfl:j=l.length:=by omega
        rw[qbA] at hv;have hf:=HR.out.symm.trans (Plain.xE l (HBAD.out KA.out) hv);subst hf;rw[qbA];go_wp2
        go_ret2;exact⟨rfl,rfl⟩
def eO(w:World)(ev:Value):Prop:=w.cell? ⟨3,0,none⟩=some ev/\∃ te pe,ev=.iface te pe
theorem eO.below{w w':World}{ev:Value}(h:eO w ev)(k:Below w.heap.size w w'):eO w' ev:=⟨Below.keeps k _ _ h.1,h.2⟩
theorem lM(l:List UInt8)(w:World)(ev:Value)(hl:l.length<=140737488351232)(hE:eO w ev):Calls qp0 219 #[.string ⟨l.toArray⟩] w fun e w'=>e=.returned (nU (Plain.decimal l))/\Below w.heap.size w w':=by
 by_cases c1:l=[]
 .subst c1;rw[Plain.gu [] (.inl rfl)];go_enter func219,ntmps219;go_wp2
  go_ret2;exact⟨rfl,Below.refl _ _⟩
 .have Zw:l.isEmpty=false:=by simpa using c1
  have c0:0<l.length:=by cases l;exact absurd rfl c1;simp
  have hx0:=oO l 0 c0;by_cases c2:l.getD 0 0=48/\1<l.length
  .rw[Plain.gu l (.inr (.inl c2))];have h1:1<(l.length:Int):=by omega
   rw[c2.1] at hx0;clear c2;go_enter func219,ntmps219;go_wp2
   go_ret2;exact⟨rfl,Below.refl _ _⟩
  .have hbad:l.all bg=true->¬ (l=[]\/(l.getD 0 0=48/\1<l.length)\/l.all bg=false):=by
    rintro ha (h|h|h)
    .exact c1 h
    .exact c2 h
    .rw[ha] at h;cases h
   have HBAD:=ah hbad;clear hbad;have HNE:=ah c1;have hh:=MI l c2;generalize hr:Plain.decimal l=r;have HR:=ah hr;clear hr;clear c1 c2;generalize l.getD 0 0=g0 at hx0 hh;rcases hh with hh|⟨hh,hh2⟩
   all_goals
    go_enter func219,ntmps219;go_wp2
    go_loop [21] (fun i=>∃ k:Nat,k<=l.length/\i=.int .i64 k/\Hid ((l.take k).all bg=true)) (fun i=>l.length-(intOf i).toNat)
    case atStart=>exact⟨0,by omega,rfl,(rfl:(l.take 0).all bg=true)⟩
    case round =>
     obtain⟨k,hk,rfl,hz⟩:=hrel;by_cases hlt:k<l.length
     .have hkn:(k:Int)<(l.length:Int):=by omega
      have hx:=oO l k hlt;have hstep:=wC l k hlt hz.out;have hno:=Em l k hlt;generalize l.getD k 0=g at hx hstep hno;have HS:=ah hstep;have VZ:=ah hno;clear hstep hno;by_cases d1:(g.toNat:Int)<48
      .have hf:=(HR.out.symm.trans (Plain.gu l (.inr (.inr (VZ.out (by omega))))));subst hf;go_wp2
       go_ret2;exact⟨rfl,Below.refl _ _⟩
      .by_cases d2:(57:Int)<g.toNat
       .have hf:=(HR.out.symm.trans (Plain.gu l (.inr (.inr (VZ.out (by omega))))));subst hf;go_wp2
        go_ret2;exact⟨rfl,Below.refl _ _⟩
       .have hs:=ah (HS.out (by omega));go_wp2
        go_round
        case rel=>exact⟨k+1,by omega,by go_num,hs⟩
        case measure=>simp[intOf];omega
     .obtain rfl:k=l.length:=by omega
      have hall:l.all bg=true:=by have:=hz.out;rwa [qbA] at this
      have hp:=yP l HNE.out hall;by_cases hov:bD 0 l<=9223372036854775807
      .rw[if_pos hov] at hp;have hf:=HR.out.symm.trans (Plain.xE l (HBAD.out hall) hov);subst hf;have HP:=ah hp;clear hp hall hz;generalize hv:bD 0 l=v at *
       have HV:=ah hv;clear hv;go_wp2_with (go_at_call 143;refine(Tryz.strconv_ParseInt_10_at64_ok _ (by simp[ByteArray.size];omega) (v:Int) HP.out _).mono ?_;rintro e w1 ⟨rfl,hw1⟩;have HW:=ah hw1;clear hw1)
       go_ret2;refine⟨by rw[HV.out];rfl,?_⟩;rcases HW.out with h|⟨t,h⟩
       .rw[h];exact Below.refl _ _
       .rw[h];exact Lib.bytesWorld_below _ _ _
      .rw[if_neg hov] at hp;have hf:=HR.out.symm.trans (Plain.xJ l (HBAD.out hall) hov);subst hf;have HP:=ah hp;clear hp hall hz;obtain⟨he1,te,pe,rfl⟩:=hE;have HE:=ah he1;clear he1;generalize aeR:Lib.intSat 64 l=sat;have ahq:=ah aeR;clear aeR;go_wp2_with (go_at_call 143;refine(Tryz.strconv_ParseInt_10_at64_range _ (by simp[ByteArray.size];omega) HP.out _ _ HE.out (Or.inr ⟨te,pe,rfl⟩)).mono ?_;rintro e w1 ⟨N,rfl,hN1,hN2,hb1⟩;have HN1:=ah hN1;have UL:=ah hN2;clear hN1 hN2;try rw[ahq.out])
       go_ret2;exact⟨rfl,hb1⟩
theorem V6:(qp0.info? 5).map (fun i=>(i.zero,i.size,i.bytes))=some (some (.int .u8 0),1,1):=by kernel_rfl
theorem Bh{w:World}{base:Nat}{e:TypeId}{v:Value}{n:Nat}{l:List UInt8}(h:w.ownsRow base e 1 v n (l.map jJ)):l.length=n:=by have:=h.1;simpa using this
theorem OY{w:World}{base:Nat}{e:TypeId}{a:Option Addr}{n c:Nat}{l:List UInt8}(h:w.ownsRow base e 1 (.slice a n c) n (l.map jJ)):Bs w a n c l:=rP h
def lV(w:World):Prop:=Lib.TabIs qp0 w "internal/strconv.uint64pow10" .u64 Lib.pow10Tab
theorem Pm(B:Nat)(w:World)(q:Nat)(os:Array Obj)(hB:B<=w.heap.size):Below B w (Sort.grow (w.drewN q) os) :=⟨rfl,rfl,rfl,by first|(simp[Sort.grow];done)|(simp[Sort.grow];omega),fun i hi=>by
  show((w.drewN q).heap++os)[i]? = _;rw[Array.getElem?_append_left (by show i<w.heap.size;omega)];rfl⟩
theorem Za:qp0.globalNamed "internal/strconv.uint64pow10"=some 1:=by kernel_rfl
theorem lV.below{w w':World}(h:lV w)(k:Below w.heap.size w w'):lV w':=Joins.tab_stays Za h k (aY _)
theorem Vr(v:Int)(h0:-9223372036854775808<=v)(h1:v<=9223372036854775807)(w:World)(ht:lV w):Calls qp0 91 #[.int .i64 v] w fun e w'=>e=.returned (.string ⟨(Lib.itoa v).toArray⟩)/\Below w.heap.size w w':=by
 have HT:=ah ht;clear ht;have hi:=ah (Tryz.strconv_Itoa v h0 h1 w HT.out);generalize Lib.itoa v=s at *
 go_enter func91,ntmps91;go_wp2_with (go_at_call 128;refine(hi.out).mono ?_;rintro e w1 ⟨rfl,k,os,hw⟩;have HW:=ah hw;clear hw)
 go_ret;exact⟨rfl,by rw[HW.out];exact Pm _ _ _ _ (aY _)⟩
theorem uK:∀ (k u:Nat),u<10^(k+1)->(Lib.decDigits u).length<=k+1
 | 0,u,h=>by rw[Lib.decDigits,dif_pos (by simpa using h)];simp
 | k+1,u,h=>by
  rw[Lib.decDigits];by_cases h1:u<10
  .rw[dif_pos h1];simp
  .have:=uK k (u / 10) (by rw[qbN] at h;omega);rw[dif_neg h1,vG];simp;omega
section
open Go.Conc
namespace Sr
def AR(R:Nat->Nat->Prop)(a b:Addr):Prop:=R a.block b.block/\a.off=b.off/\a.spot=b.spot
inductive VR(R:Nat->Nat->Prop)(L:FuncId->Bool):Value->Value->Prop
 | bool (b:Bool):VR R L (.bool b) (.bool b)
 | int (k:IntKind) (n:Int):VR R L (.int k n) (.int k n)
 | string (s:ByteArray):VR R L (.string s) (.string s)
 | gV:VR R L (.pointer none) (.pointer none)
 | ptr (a b:Addr) (h:AR R a b):VR R L (.pointer (some a)) (.pointer (some b))
 | iq (n c:Nat):VR R L (.slice none n c) (.slice none n c)
 | slice (a b:Addr) (n c:Nat) (h:AR R a b):VR R L (.slice (some a) n c) (.slice (some b) n c)
 | fV:VR R L (.map none) (.map none)
 | map (r s:Nat) (h:R r s):VR R L (.map (some r)) (.map (some s))
 | chan (r:Option Nat):VR R L (.chan r) (.chan r)
 | func (f:FuncId) (hf:L f=true) (x c y d:Array Value) (hx:x.size=y.size) (hxv:∀ (i:Nat)(v w:Value),x[i]? = some v->y[i]? = some w->VR R L v w)
   (hc:c.size=d.size) (hcv:∀ (i:Nat)(v w:Value),c[i]? = some v->d[i]? = some w->VR R L v w):VR R L (.func (.func f) x c) (.func (.func f) y d)
 | nilFunc:VR R L .nilFunc .nilFunc
 | iface (t:TypeId) (v w:Value) (h:VR R L v w):VR R L (.iface t v) (.iface t w)
 | tJ (t:TypeId) (a:Addr) (ht:L (2*t+1000000000)=true) (ha:L (2*a.block+1000000001)=true):VR R L (.iface t (.pointer (some a))) (.iface t (.pointer (some a)))
 | nilIface:VR R L .nilIface .nilIface
 | agg (x y:Array Value) (hx:x.size=y.size) (hv:∀ (i:Nat)(v w:Value),x[i]? = some v->y[i]? = some w->VR R L v w):VR R L (.agg x) (.agg y)
 | tuple (x y:Array Value) (hx:x.size=y.size) (hv:∀ (i:Nat)(v w:Value),x[i]? = some v->y[i]? = some w->VR R L v w):VR R L (.tuple x) (.tuple y)
section
variable {R R':Nat->Nat->Prop}{L:FuncId->Bool}
def AV(R:Nat->Nat->Prop)(L:FuncId->Bool)(x y:Array Value):Prop:=x.size=y.size/\∀ (i:Nat)(v w:Value),x[i]? = some v->y[i]? = some w->VR R L v w
theorem AR.mono{a b:Addr}(h:AR R a b)(hR:∀ a b,R a b->R' a b):AR R' a b:=⟨hR _ _ h.1,h.2⟩
theorem VR.mono(hR:∀ a b,R a b->R' a b){v w:Value}(h:VR R L v w):VR R' L v w:=by
 induction h with
 | bool b=>exact .bool b
 | int k n=>exact .int k n
 | string s=>exact .string s
 | gV=>exact .gV
 | ptr a b h=>exact .ptr a b (h.mono hR)
 | iq n c=>exact .iq n c
 | slice a b n c h=>exact .slice a b n c (h.mono hR)
 | fV=>exact .fV
 | map r s h=>exact .map r s (hR _ _ h)
 | chan r=>exact .chan r
 | func f hf x c y d hx hxv hc hcv ih1 ih2=>exact .func f hf x c y d hx ih1 hc ih2
 | nilFunc=>exact .nilFunc
 | iface t v w h ih=>exact .iface t v w ih
 | tJ t a ht ha=>exact .tJ t a ht ha
 | nilIface=>exact .nilIface
 | agg x y hx hv ih=>exact .agg x y hx ih
 | tuple x y hx hv ih=>exact .tuple x y hx ih
theorem AV.mono(hR:∀ a b,R a b->R' a b){x y:Array Value}(h:AV R L x y):AV R' L x y:=⟨h.1,fun i v w hv hw=>(h.2 i v w hv hw).mono hR⟩
theorem VR.DC{x y:Array Value}(h:AV R L x y):VR R L (.agg x) (.agg y):=.agg x y h.1 h.2
theorem VR.q9{x y:Array Value}(h:AV R L x y):VR R L (.tuple x) (.tuple y):=.tuple x y h.1 h.2
theorem AV.nil:AV R L #[] #[]:=⟨rfl,fun i v w h _=>by simp at h⟩
theorem AV.get{x y:Array Value}(h:AV R L x y)(i:Nat):(x[i]? = none/\y[i]? = none)\/∃ v w,x[i]? = some v/\y[i]? = some w/\VR R L v w:=by
 cases hx:x[i]? with
 | none =>
  refine .inl ⟨rfl,?_⟩;rw[Array.getElem?_eq_none_iff] at hx ⊢;rw[<-h.1];exact hx
 | some v =>
  have hlt:i<y.size:=by rw[<-h.1];exact(fT.1 hx).1
  exact .inr ⟨v,y[i],rfl,mJ hlt,h.2 i _ _ hx (mJ hlt)⟩
theorem AV.push{x y:Array Value}(h:AV R L x y){v w:Value}(hv:VR R L v w):AV R L (x.push v) (y.push w):=by
 refine⟨by simp[h.1],fun i a b ha hb=>?_⟩;rw[Qi] at ha hb;split at ha
 .rw[<-h.1] at hb;rename_i hi
  rw[if_pos hi] at hb
  cases ha;cases hb;exact hv
 .rw[<-h.1] at hb;rename_i hi
  rw[if_neg hi] at hb;exact h.2 i a b ha hb
theorem AV.app{x y a b:Array Value}(h:AV R L x y)(k:AV R L a b):AV R L (x++a) (y++b):=by
 refine⟨by simp[h.1,k.1],fun i v w hv hw=>?_⟩;rw[qci] at hv hw;rw[<-h.1] at hw;split at hv
 .rename_i hi
  rw[if_pos hi] at hw;exact h.2 i v w hv hw
 .rename_i hi
  rw[if_neg hi] at hw;exact k.2 _ v w hv hw
theorem AV.extract{x y:Array Value}(h:AV R L x y)(a b:Nat):AV R L (x.extract a b) (y.extract a b):=by
 refine⟨by simp[h.1],fun i v w hv hw=>?_⟩;rw[Array.getElem?_extract] at hv hw;rw[<-h.1] at hw;split at hv
 .rename_i hi
  rw[if_pos hi] at hw;exact h.2 _ v w hv hw
 .cases hv
theorem AV.set{x y:Array Value}(h:AV R L x y)(j:Nat){v w:Value}(hv:VR R L v w):AV R L (x.setIfInBounds j v) (y.setIfInBounds j w):=by
 refine⟨by simp[h.1],fun i a b ha hb=>?_⟩;rw[qa2] at ha hb;rw[<-h.1] at hb;split at ha
 .rename_i hij
  rw[if_pos hij] at hb;split at ha
  .rename_i hlt
   rw[if_pos hlt] at hb
   cases ha;cases hb;exact hv
  .cases ha
 .rename_i hij
  rw[if_neg hij] at hb;exact h.2 i a b ha hb
theorem AV.one{v w:Value}(hv:VR R L v w):AV R L #[v] #[w]:=AV.push AV.nil hv
theorem AV.two{v w a b:Value}(hv:VR R L v w)(h2:VR R L a b):AV R L #[v,a] #[w,b]:=AV.push (AV.one hv) h2
theorem AV.three{v w a b c d:Value}(hv:VR R L v w)(h2:VR R L a b)(h3:VR R L c d):AV R L #[v,a,c] #[w,b,d]:=AV.push (AV.two hv h2) h3
theorem AV.abx(n:Nat){v w:Value}(hv:VR R L v w):AV R L (Array.replicate n v) (Array.replicate n w):=by
 refine⟨by simp,fun i a b ha hb=>?_⟩;rw[Array.getElem?_replicate] at ha hb;split at ha
 .rename_i hi
  rw[if_pos hi] at hb
  cases ha;cases hb;exact hv
 .cases ha
theorem AV.getD{x y:Array Value}(h:AV R L x y)(i:Nat){v w:Value}(hv:VR R L v w):VR R L (x.getD i v) (y.getD i w):=by
 rw[Az,Az];rcases h.get i with⟨h1,h2⟩|⟨a,b,h1,h2,h3⟩
 .rw[h1,h2];exact hv
 .rw[h1,h2];exact h3
theorem AV.afy{x y:Array Value}(h:AV R L x y)(i:Nat):VR R L x[i]! y[i]!:=by
 rw[Array.getElem!_eq_getD,Array.getElem!_eq_getD];exact h.getD i (.bool _)
theorem AV.mk'{x y:Array Value}(hs:x.size=y.size)(h:∀ i (h1:i<x.size) (h2:i<y.size),VR R L x[i] y[i]):AV R L x y :=⟨hs,fun i v w hv hw=>by
  obtain⟨h1,rfl⟩:=fT.1 hv;obtain⟨h2,rfl⟩:=fT.1 hw;exact h i h1 h2⟩
theorem AV.abG{α:Type}(l:Array α){f g:α->Value}(h:∀ a,VR R L (f a) (g a)):AV R L (l.map f) (l.map g) :=AV.mk' (by simp) fun i h1 h2=>by simp only[Array.getElem_map];exact h _
theorem dG:VR R L undef undef:=VR.q9 AV.nil
theorem VR.cells{v w:Value}(h:VR R L v w):AV R L v.cells w.cells:=by
 cases h with
 | agg x y hx hv=>exact⟨hx,hv⟩
 | bool b=>exact AV.one (.bool b)
 | int k n=>exact AV.one (.int k n)
 | string s=>exact AV.one (.string s)
 | gV=>exact AV.one .gV
 | ptr a b h=>exact AV.one (.ptr a b h)
 | iq n c=>exact AV.one (.iq n c)
 | slice a b n c h=>exact AV.one (.slice a b n c h)
 | fV=>exact AV.one .fV
 | map r s h=>exact AV.one (.map r s h)
 | chan r=>exact AV.one (.chan r)
 | func f hf x c y d hx hxv hc hcv=>exact AV.one (.func f hf x c y d hx hxv hc hcv)
 | nilFunc=>exact AV.one .nilFunc
 | iface t v w h=>exact AV.one (.iface t v w h)
 | tJ t a ht ha=>exact AV.one (.tJ t a ht ha)
 | nilIface=>exact AV.one .nilIface
 | tuple x y hx hv=>exact AV.one (.tuple x y hx hv)
end
def jh:Nat->Value->Bool
 | 0,_=>false
 | n+1,v=>match v with
  | .bool _|.int ..|.string _|.pointer none|.slice none _ _|.map none|.chan none|.nilFunc|.nilIface=>true
  | .iface _ v=>jh n v
  | .agg x=>x.toList.all (jh n)
  | .tuple x=>x.toList.all (jh n)
  | _=>false
def clean(v:Value):Bool:=jh 40 v
theorem zI{R:Nat->Nat->Prop}{L:FuncId->Bool}:∀ (n:Nat){v:Value},jh n v=true->VR R L v v
 | 0,v,h=>by cases h
 | n+1,v,h=>by
  have all:∀ x:Array Value,x.toList.all (jh n)=true->∀ (i:Nat)(v w:Value),x[i]? = some v->x[i]? = some w->VR R L v w:=fun x hx i v w hv hw=>by
   rw[hv] at hw;cases hw
   rw[Ej] at hx;exact zI n (hx v (by simpa using Array.mem_of_getElem? hv))
  cases v with
  | bool b=>exact .bool b
  | int k n=>exact .int k n
  | float k n=>simp[jh] at h
  | complex k n m=>simp[jh] at h
  | string s=>exact .string s
  | pointer a=>cases a with
   | none=>exact .gV
   | some a=>simp[jh] at h
  | slice a n c=>cases a with
   | none=>exact .iq n c
   | some a=>simp[jh] at h
  | map r=>cases r with
   | none=>exact .fV
   | some r=>simp[jh] at h
  | chan r=>exact .chan r
  | func f x c=>simp[jh] at h
  | nilFunc=>exact .nilFunc
  | nilIface=>exact .nilIface
  | iface t v=>exact .iface t v v (zI n (by simpa only[jh] using h))
  | agg x=>exact .agg x x rfl (all x (by simpa only[jh] using h))
  | tuple x=>exact .tuple x x rfl (all x (by simpa only[jh] using h))
theorem yg{R:Nat->Nat->Prop}{L:FuncId->Bool}{v:Value}(h:clean v=true):VR R L v v:=zI 40 h
structure ER(R:Nat->Nat->Prop)(L:FuncId->Bool)(x y:MapEntry):Prop where
 key:VR R L x.key y.key
 val:VR R L x.val y.val
 born:x.born=y.born
def EV(R:Nat->Nat->Prop)(L:FuncId->Bool)(x y:Array MapEntry):Prop:=x.size=y.size/\∀ (i:Nat)(v w:MapEntry),x[i]? = some v->y[i]? = some w->ER R L v w
inductive OR(R:Nat->Nat->Prop)(L:FuncId->Bool):Obj->Obj->Prop
 | cells (x y:Array Value) (e:TypeId) (f:Nat×Nat) (h:AV R L x y):OR R L (.cells x e f) (.cells y e f)
 | map (x y:Array MapEntry) (c:Nat) (h:EV R L x y):OR R L (.map x c) (.map y c)
 | sit (s:ByteArray) (p:Nat):OR R L (.stringIter s p) (.stringIter s p)
 | fV (a:Nat) (s:Array Nat) (t:Nat):OR R L (.mapIter none a s t) (.mapIter none a s t)
 | number (a b:Addr) (l:Bool) (h:AR R a b):OR R L (.number a l) (.number b l)
 | M7 (m m':Nat) (h:R m m') (a:Nat) (s:Array Nat) (t:Nat):OR R L (.mapIter (some m) a s t) (.mapIter (some m') a s t)
section
variable {R R':Nat->Nat->Prop}{L:FuncId->Bool}
theorem ER.mono(hR:∀ a b,R a b->R' a b){x y:MapEntry}(h:ER R L x y):ER R' L x y:=⟨h.key.mono hR,h.val.mono hR,h.born⟩
theorem EV.mono(hR:∀ a b,R a b->R' a b){x y:Array MapEntry}(h:EV R L x y):EV R' L x y:=⟨h.1,fun i v w hv hw=>(h.2 i v w hv hw).mono hR⟩
theorem OR.mono(hR:∀ a b,R a b->R' a b){x y:Obj}(h:OR R L x y):OR R' L x y:=by
 cases h with
 | cells x y e f h=>exact .cells x y e f (h.mono hR)
 | map x y c h=>exact .map x y c (h.mono hR)
 | sit s p=>exact .sit s p
 | fV a s t=>exact .fV a s t
 | number a b l h=>exact .number a b l (h.mono hR)
 | M7 m m' h a s t=>exact .M7 m m' (hR _ _ h) a s t
end
def Bd:Halt->Prop
 | .stuck _=>True
 | .unsupported (.initOrder _)=>False
 | .unsupported _=>True
 | _=>False
def Mk:Mark->Bool
 | .noRoom|.extern _=>true
 | _=>false
def SR(P:Program)(R:Nat->Nat->Prop)(L:FuncId->Bool){α:Type}(C:α->α->Prop):Sem α->Sem α->Prop
 | .pure a,s=>∃ b,s=.pure b/\C a b
 | .load m a k,s=>∃ b l,s=.load m b l/\m=.plain/\AR R a b/\∀ v u,VR R L v u->SR P R L C (k v) (l u)
 | .store m a v k,s=>∃ b u l,s=.store m b u l/\m=.plain/\AR R a b/\VR R L v u/\SR P R L C k l
 | .new o k,s=>∃ o' l,s=.new o' l/\OR R L o o'/\∀ n n',R n n'->SR P R L C (k n) (l n')
 | .shape r k,s=>∃ r' l,s=.shape r' l/\((R r r'/\∀ x,SR P R L C (k x) (l x))\/(r=r'/\L (2*r+1000000001)=true/\∀ e n,SR P R L C (k (some (e,n))) (l (some (e,n)))))
 | .freeze a n k,s=>∃ b l,s=.freeze b n l/\AR R a b/\SR P R L C k l
 | .frozen a k,s=>∃ b l,s=.frozen b l/\((AR R a b/\∀ x,SR P R L C (k x) (l x))\/(a.block=b.block/\L (2*a.block+1000000001)=true/\SR P R L C (k false) (l false)))
 | .getObj r k,s=>∃ r' l,s=.getObj r' l/\R r r'/\∀ o o',OR R L o o'->SR P R L C (k o) (l o')
 | .setObj r o k,s=>∃ r' o' l,s=.setObj r' o' l/\R r r'/\OR R L o o'/\SR P R L C k l
 | .choose q k,s=>∃ l,s=.choose q l/\∀ n,SR P R L C (k n) (l n)
 | .sys _ _,_=>False
 | .program k,s=>∃ l,s=.program l/\SR P R L C (k P) (l P)
 | .mark m k,s=>∃ l,s=.mark m l/\Mk m=true/\SR P R L C k l
 | .halt (.panic v),s=>∃ u,s=.halt (.panic u)/\VR R L v u
 | .halt h,_=>Bd h
section
variable {P:Program}{R:Nat->Nat->Prop}{L:FuncId->Bool}{α β:Type}{C:α->α->Prop}{D:β->β->Prop}
theorem fu{f g:α->Sem β}(hf:∀ a b,C a b->SR P R L D (f a) (g b)):∀ {s t:Sem α},SR P R L C s t->SR P R L D (s.bind f) (t.bind g)
 | .pure a,t,h=>by obtain⟨b,rfl,hc⟩:=h;exact hf a b hc
 | .load m a k,t,h=>by obtain⟨b,l,rfl,h1,h2,h3⟩:=h;exact⟨b,_,rfl,h1,h2,fun v u hv=>fu hf (h3 v u hv)⟩
 | .store m a v k,t,h=>by obtain⟨b,u,l,rfl,h1,h2,h3,h4⟩:=h;exact⟨b,u,_,rfl,h1,h2,h3,fu (s:=k) hf h4⟩
 | .new o k,t,h=>by obtain⟨o',l,rfl,h1,h2⟩:=h;exact⟨o',_,rfl,h1,fun n n' hn=>fu hf (h2 n n' hn)⟩
 | .shape r k,t,h=>by
  obtain⟨r',l,rfl,h1⟩:=h;refine⟨r',_,rfl,?_⟩;rcases h1 with⟨h1,h2⟩|⟨h0,h1,h2⟩
  .exact .inl ⟨h1,fun x=>fu hf (h2 x)⟩
  .exact .inr ⟨h0,h1,fun e n=>fu hf (h2 e n)⟩
 | .freeze a n k,t,h=>by obtain⟨b,l,rfl,h1,h2⟩:=h;exact⟨b,_,rfl,h1,fu (s:=k) hf h2⟩
 | .frozen a k,t,h=>by
  obtain⟨b,l,rfl,h1⟩:=h;refine⟨b,_,rfl,?_⟩;rcases h1 with⟨h1,h2⟩|⟨h0,h1,h2⟩
  .exact .inl ⟨h1,fun x=>fu hf (h2 x)⟩
  .exact .inr ⟨h0,h1,fu hf h2⟩
 | .getObj r k,t,h=>by obtain⟨r',l,rfl,h1,h2⟩:=h;exact⟨r',_,rfl,h1,fun o o' ho=>fu hf (h2 o o' ho)⟩
 | .setObj r o k,t,h=>by obtain⟨r',o',l,rfl,h1,h2,h3⟩:=h;exact⟨r',o',_,rfl,h1,h2,fu (s:=k) hf h3⟩
 | .choose q k,t,h=>by obtain⟨l,rfl,h1⟩:=h;exact⟨_,rfl,fun n=>fu hf (h1 n)⟩
 | .program k,t,h=>by obtain⟨l,rfl,h1⟩:=h;exact⟨_,rfl,fu (s:=k P) hf h1⟩
 | .mark m k,t,h=>by obtain⟨l,rfl,h0,h1⟩:=h;exact⟨_,rfl,h0,fu (s:=k) hf h1⟩
 | .halt x,t,h=>by
  cases x with
  | panic v=>obtain⟨u,rfl,hv⟩:=h;exact⟨u,rfl,hv⟩
  | _=>exact h
theorem aM{s t:Sem α}{f g:α->Sem β}(h:SR P R L C s t)(hf:∀ a b,C a b->SR P R L D (f a) (g b)):SR P R L D (s >>= f) (t >>= g):=fu hf h
theorem aJ{s t:Sem α}{f g:α->Sem β}(h:SR P R L (·=·) s t)(hf:∀ a,SR P R L D (f a) (g a)):SR P R L D (s >>= f) (t >>= g):=fu (fun a b e=>by subst e;exact hf a) h
theorem QC{C':α->α->Prop}(hC:∀ a b,C a b->C' a b){s t:Sem α}(h:SR P R L C s t):SR P R L C' s t:=by
 have e:∀ s:Sem α,s.bind .pure=s:=by
  intro s
  induction s with
  | pure a=>rfl
  | halt x=>rfl
  | store m a v k ih=>simp only[Sem.bind,ih]
  | freeze a n k ih=>simp only[Sem.bind,ih]
  | setObj r o k ih=>simp only[Sem.bind,ih]
  | mark m k ih=>simp only[Sem.bind,ih]
  | load m a k ih=>simp only[Sem.bind,ih]
  | new o k ih=>simp only[Sem.bind,ih]
  | shape r k ih=>simp only[Sem.bind,ih]
  | frozen a k ih=>simp only[Sem.bind,ih]
  | getObj r k ih=>simp only[Sem.bind,ih]
  | choose q k ih=>simp only[Sem.bind,ih]
  | sys c k ih=>simp only[Sem.bind,ih]
  | program k ih=>simp only[Sem.bind,ih]
 have hp:∀ a b,C a b->SR P R L C' (Sem.pure a) (Sem.pure b):=fun a b hc=>⟨b,rfl,hC a b hc⟩
 have:=fu (P:=P) (R:=R) (L:=L) (C:=C) (D:=C') (f:=Sem.pure) (g:=Sem.pure) hp h
 rwa [e,e] at this
theorem Hw{s t:Sem α}{f g:α->β}(h:SR P R L C s t)(hf:∀ a b,C a b->D (f a) (g b)):SR P R L D (f <$> s) (g <$> t):=by
 show SR P R L D (s.bind fun a=>.pure (f a)) (t.bind fun a=>.pure (g a));have hp:∀ a b,C a b->SR P R L D (Sem.pure (f a)) (Sem.pure (g b)):=fun a b hc=>⟨_,rfl,hf a b hc⟩
 exact fu (f:=fun a=>Sem.pure (f a)) (g:=fun a=>Sem.pure (g a)) hp h
theorem ak{a b:α}(h:C a b):SR P R L C (pure a:Sem α) (pure b):=⟨b,rfl,h⟩
theorem aI(a:α):SR P R L (·=·) (pure a:Sem α) (pure a):=⟨a,rfl,rfl⟩
theorem rz{a b:α}{f g:α->Sem β}(h:SR P R L D (f a) (g b)):SR P R L D ((pure a:Sem α) >>= f) ((pure b:Sem α) >>= g):=h
theorem aj(m:String)(t:Sem α):SR P R L C (stuck m) t:=trivial
theorem aW(u:Unsupported)(t:Sem α)(h:Bd (.unsupported u):=by exact trivial):SR P R L C (unsupported u) t:=h
theorem BX{v u:Value}(h:VR R L v u):SR P R L C (goPanic v:Sem α) (goPanic u):=⟨u,rfl,h⟩
theorem aF{c:Prop}[Decidable c]{a b a' b':Sem α}(ha:SR P R L C a a')(hb:SR P R L C b b'):SR P R L C (if c then a else b) (if c then a' else b'):=by
 by_cases h:c
 .rw[if_pos h,if_pos h];exact ha
 .rw[if_neg h,if_neg h];exact hb
theorem dH{m:String}{f:α->Sem β}{t:Sem β}:SR P R L D ((stuck m:Sem α) >>= f) t:=trivial
theorem dJ{u:Unsupported}{f:α->Sem β}{t:Sem β}(h:Bd (.unsupported u):=by exact trivial):SR P R L D ((unsupported u:Sem α) >>= f) t:=h
end
def still{α:Type}(P:Program)(C:α->Prop):Sem α->Prop
 | .pure a=>C a
 | .choose _ k=>∀ n,still P C (k n)
 | .program k=>still P C (k P)
 | .mark m k=>Mk m=true/\still P C k
 | .halt (.panic v)=>clean v=true
 | .halt h=>Bd h
 | _=>False
section
variable {P:Program}{R:Nat->Nat->Prop}{L:FuncId->Bool}{α β:Type}
end
end Sr
end
theorem aiE{x y:List UInt8}{k:Nat}(h:((x.getD k 0).toNat:Int)≠((y.getD k 0).toNat:Int)):decide (x=y)=false:=by
 simp only[decide_eq_false_iff_not];intro e;subst e;exact h rfl
theorem aiq{x y:List UInt8}{k:Nat}(hk:k<x.length)(hl:y.length=x.length)(ih:x.take k=y.take k)(h:((x.getD k 0).toNat:Int)=((y.getD k 0).toNat:Int)):x.take (k+1)=y.take (k+1):=by
 have h1:k<y.length:=by omega
 have he:x[k]=y[k]:=by
  have:(x.getD k 0)=(y.getD k 0):=VL.1 (by omega);simpa[List.getD,kM hk,kM h1] using this
 rw[Nh hk,Nh h1,ih,he]
theorem ah9(a b:Option Addr)(n m c d:Nat)(x y:List UInt8)(w:World)(ha:Bs w a n c x)(hb:Bs w b m d y):Calls qp0 19 #[.slice a n c,.slice b m d] w fun e w'=>e=.returned (.bool (decide (x=y)))/\Below w.heap.size w w':=by
 have hx:=ha.len;have hy:=hb.len;have c1:=ha.cap;have c2:=hb.cap;have m1:=ha.max;have m2:=hb.max;by_cases hnm:n=m
 .subst hnm;have hn:((n:Int) != n)=false:=by simp
  generalize hr:decide (x=y)=r;have HR:=ah hr;clear hr;have HX:=ah hx;have HY:=ah hy;clear hx hy;go_enter func19,ntmps19;go_wp2
  go_loopw [5] (fun i wr=>∃ k:Nat,k<=n/\i=.int .i64 k/\Hid (x.take k=y.take k)/\Below w.heap.size w wr) (fun i _=>n-(intOf i).toNat)
  case atStart=>exact⟨0,M8 _,rfl,(rfl:x.take 0=y.take 0),Below.refl _ _⟩
  case round =>
   obtain⟨k,hk,rfl,heq,hbel⟩:=hrel;by_cases hlt:k<n
   .obtain⟨b1,o1,rfl,h1⟩:=(Below.bs hbel ha).at k hlt;obtain⟨b2,o2,rfl,h2⟩:=(Below.bs hbel hb).at k hlt;clear ha hb;generalize hg1:((x.getD k 0).toNat:Int)=g1 at h1;generalize hg2:((y.getD k 0).toNat:Int)=g2 at h2;have Zm:=ah hg1;have HG2:=ah hg2;clear hg1 hg2;by_cases hne:g1=g2
    .have hz:(g1 != g2)=false:=Rf hne;have HE:=ah hne;clear hne;go_wp2
     go_quiet (fail)
     go_wp2
     exact⟨⟨k+1,by omega,by go_num,aiq (by have:=HX.out;omega) (by have:=HX.out;have:=HY.out;omega) heq (by rw[Zm.out,HG2.out,HE.out]),Below.drewN hbel _⟩,by simp[intOf];omega⟩
    .have hz:(g1 != g2)=true:=ab6 hne;have HE:=ah hne;clear hne;go_wp2
     go_quiet (fail)
     go_wp2
     go_ret;exact⟨yw (by rw[<-HR.out];exact(aiE (k:=k) (by rw[Zm.out,HG2.out];exact HE.out)).symm),Below.drewN hbel _⟩
   .obtain rfl:k=n:=by omega
    go_wp2
    go_ret;refine⟨yw ?_,hbel⟩;have h1:=HX.out;have h2:=HY.out;have h3:=heq.out;rw[MU (by omega),MU (by omega)] at h3;rw[<-HR.out];simp[h3]
 .have hne:decide (x=y)=false:=by
   simp only[decide_eq_false_iff_not];intro h;subst h;omega
  rw[hne];clear hne;have hn:((n:Int) != m)=true:=by rw[bne_iff_ne];omega
  go_enter func19,ntmps19;go_wp2
  go_ret;exact⟨rfl,Below.refl _ _⟩
end Go.Proofs.YtdbgldieilgnmaaGreatDoor
