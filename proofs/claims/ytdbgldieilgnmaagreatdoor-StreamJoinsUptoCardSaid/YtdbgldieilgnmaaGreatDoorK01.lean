/- K01 -/
import Derived.Test.YtdbgldieilgnmaaGreatDoorJ00
import Derived.WalkSpells
import Derived.BigQuiet
import Derived.Test.YtdbgldieilgnmaaGreatDoorSh
import Derived.Lib.SmallJoins
import Derived.Conc.Beside
set_option linter.all false
set_option maxHeartbeats 8000000
set_option maxRecDepth 100000
namespace Go.Proofs.YtdbgldieilgnmaaGreatDoor
open Tryz
open Go.Proofs.Tryz renaming prog → qp0
open ChangeShapes WideShapes ChangeAt RowKit
section
def jJ(b:UInt8):Value:=.int .u8 (b.toNat:Int)
def Cs(w:World)(a:Option Addr)(xs:List Value):Prop:=∀ j v,xs[j]? = some v->∃ x:Addr,a=some x/\w.cell? (x.add j)=some v
def wh(w:World)(sz:Nat)(a:Option Addr)(n cap:Nat)(xs:List Value):Prop:=xs.length=n*sz/\n<=cap/\cap<=maxLen/\Cs w a xs/\(a=none->n=0/\cap=0)
def Bs(w:World)(a:Option Addr)(n cap:Nat)(l:List UInt8):Prop:=wh w 1 a n cap (l.map jJ)
def Keeps(w w':World):Prop:=∀ p v,w.cell? p=some v->w'.cell? p=some v
theorem Keeps.refl(w:World):Keeps w w:=fun _ _ h=>h
theorem Keeps.trans{a b c:World}(h:Keeps a b)(k:Keeps b c):Keeps a c:=fun p v hv=>k p v (h p v hv)
theorem Below.keeps{w w':World}(h:Below w.heap.size w w'):Keeps w w':=fun p v hv=>by
 rw[h.cell (World.block_lt_of_cell? (w:=w) (a:=p) hv)];exact hv
theorem Keeps.cs{w w':World}{a:Option Addr}{xs:List Value}(k:Keeps w w')(h:Cs w a xs):Cs w' a xs:=fun j v hj=>by
 obtain⟨x,hx,hc⟩:=h j v hj;exact⟨x,hx,k _ _ hc⟩
theorem Keeps.sl{w w':World}{sz:Nat}{a:Option Addr}{n cap:Nat}{xs:List Value}(k:Keeps w w')(h:wh w sz a n cap xs):wh w' sz a n cap xs:=⟨h.1,h.2.1,h.2.2.1,k.cs h.2.2.2.1,h.2.2.2.2⟩
theorem Keeps.bs{w w':World}{a:Option Addr}{n cap:Nat}{l:List UInt8}(k:Keeps w w')(h:Bs w a n cap l):Bs w' a n cap l:=k.sl h
theorem Below.bs{w w':World}{a:Option Addr}{n cap:Nat}{l:List UInt8}(k:Below w.heap.size w w')(h:Bs w a n cap l):Bs w' a n cap l:=(Below.keeps k).sl h
theorem Keeps.alloc(w:World)(o:Obj):Keeps w (w.alloc o):=fun p v hv=>by
 rw[World.cell?_alloc_lt w o p (World.block_lt_of_cell? (w:=w) (a:=p) hv)];exact hv
theorem Keeps.drewN(w:World)(n:Nat):Keeps w (w.drewN n):=fun _ _ h=>h
theorem Below.drewN{B:Nat}{a w:World}(h:Below B a w)(n:Nat):Below B a (w.drewN n):=⟨h.os,h.tape,h.output,h.size,h.block⟩
theorem Below.seq{w0 w w':World}(h:Below w0.heap.size w0 w)(k:Below w.heap.size w w'):Below w0.heap.size w0 w':=h.trans (k.mono h.size)
theorem Bs.len{w:World}{a:Option Addr}{n cap:Nat}{l:List UInt8}(h:Bs w a n cap l):l.length=n:=by have:=h.1;simpa using this
theorem Bs.cap{w:World}{a:Option Addr}{n cap:Nat}{l:List UInt8}(h:Bs w a n cap l):n<=cap:=h.2.1
theorem Bs.max{w:World}{a:Option Addr}{n cap:Nat}{l:List UInt8}(h:Bs w a n cap l):cap<=9223372036854775807:=h.2.2.1
theorem Cs.at{w:World}{a:Option Addr}{xs:List Value}(h:Cs w a xs)(k:Nat)(v:Value)(hk:xs[k]? = some v):∃ b off,a=some ⟨b,off,none⟩/\w.cell? ⟨b,off+k,none⟩=some v:=by
 obtain⟨⟨b,off,sp⟩,rfl,hc⟩:=h k v hk;by_cases h0:k=0
 .subst h0;have hs:sp=none:=by
   simp only[Addr.add,if_true] at hc;simpa using World.cell?_spot hc
  subst hs;exact⟨b,off,rfl,by simpa[Addr.add] using hc⟩
 .have h0':xs[0]?.isSome=true:=by
   have hl:k<xs.length:=(qbl.1 hk).1;simp;omega
  obtain⟨v0,hv0⟩:=qbM.1 h0';obtain⟨x,hx,hc0⟩:=h 0 v0 hv0
  cases hx
  have hs:sp=none:=by
   simp only[Addr.add,if_true] at hc0;simpa using World.cell?_spot hc0
  subst hs;exact⟨b,off,rfl,by simpa[Addr.add,h0] using hc⟩
theorem Bs.at{w:World}{a:Option Addr}{n cap:Nat}{l:List UInt8}(h:Bs w a n cap l)(k:Nat)(hk:k<n):∃ b off,a=some ⟨b,off,none⟩/\w.cell? ⟨b,off+k,none⟩=some (.int .u8 ((l.getD k 0).toNat:Int)):=by
 refine h.2.2.2.1.at k _ ?_;have hl:=h.len;have:k<l.length:=by omega
 simp[List.getD,kM this,jJ]
theorem kY(l:List UInt8):∀ u∈l.map jJ,u.oneCell'=true:=by
 intro u hu;obtain⟨_,_,rfl⟩:=ZW.1 hu;rfl
theorem rP{w:World}{base:Nat}{e:TypeId}{sz:Nat}{a:Option Addr}{n c:Nat}{xs:List Value}(h:w.ownsRow base e sz (.slice a n c) n xs):wh w sz a n c xs:=by
 obtain⟨hl,h⟩:=h;rcases h with⟨hv,h0⟩|⟨g,cap,cur,hv,hb,hh,hn,hm,hs,ht⟩
 .simp only[Value.slice.injEq] at hv;obtain⟨rfl,rfl,rfl⟩:=hv;have:xs=[]:=O8 (by simpa using hl);subst this;exact⟨by simp,aY _,by unfold maxLen;omega,fun j v hj=>by simp at hj,fun _=>⟨rfl,rfl⟩⟩
 .simp only[Value.slice.injEq,true_and] at hv;obtain⟨rfl,rfl⟩:=hv;refine⟨hl,hn,hm,fun j v hj=>⟨_,rfl,?_⟩,fun h=>by cases h⟩;rw[Addr.add_lit];simp only[World.cell?,hh,lU];rw[<-ht] at hj;have hj':=hj;rw[VX] at hj';split at hj'
  .simpa using hj'
  .cases hj'
theorem yT{w:World}{base:Nat}{e:TypeId}{sz:Nat}{v:Value}{n:Nat}{xs:List Value}(h:w.ownsRow base e sz v n xs):∃ a c,v=.slice a n c:=by
 obtain⟨_,h⟩:=h;rcases h with⟨hv,h0⟩|⟨g,cap,cur,hv,_⟩
 .exact⟨none,0,by rw[hv,h0]⟩
 .exact⟨_,_,hv⟩
theorem pq(w:World)(e:TypeId)(sz n:Nat)(cs:Array Value)(h:cs.size=n*sz)(hm:n<=maxLen):wh (w.alloc (.cells cs e)) sz (some ⟨w.heap.size,0,none⟩) n n cs.toList:=by
 refine⟨by simpa using h,aY _,hm,fun j v hj=>⟨_,rfl,?_⟩,fun h=>by cases h⟩;rw[Addr.add_lit,lU,World.cell?_alloc_new];simpa using hj
theorem Sg(w:World)(e:TypeId)(sz n:Nat)(cs:Array Value)(fr:Nat×Nat)(h:cs.size=n*sz)(hm:n<=maxLen):wh (w.alloc (.cells cs e fr)) sz (some ⟨w.heap.size,0,none⟩) n n cs.toList:=by
 refine⟨by simpa using h,aY _,hm,fun j v hj=>⟨_,rfl,?_⟩,fun h=>by cases h⟩;rw[Addr.add_lit,lU,World.cell?_alloc_mark];simpa using hj
theorem below_app{B base:Nat}{w0 w w':World}{e:TypeId}{sz:Nat}{v:Value}{n:Nat}{xs:List Value}(h:Below B w0 w)(ho:w.ownsRow base e sz v n xs)(hg:w.grownBy w' v.ownBlock)(h1:B<=base)(h2:B<=w.heap.size):Below B w0 w' :=h.grown hg h2 fun k hk=>by have:=(ho.lt k hk).1;omega
section laws
variable {P:Program}{ops:Array Oper}{rest:List Oper}{o:Oper}{a:Act}{w:World}{Q:Exit->Act->World->Prop}
theorem bI(hg:o.guard=none)(v:Value)(w':World)(h:(execOp a.eval o).run P w=.ok (.value v) w')(hk:wpList P ops Q rest (a.put o.dst v) w'):wpList P ops Q (o::rest) a w :=wpList_plain hg fun K hK=>by unfold Oper.wp;rw[h];exact hK _ _ hk
theorem nJ(hgd:o.guard=none)(s x:Operand)(t:TypeId)(ho:o.op=.call {callee:=.builtin .append,args:=#[s,x],argTypes:=#[t,t]})(base:Nat)(e:TypeId)(z:Value)(sz bytes:Nat)(ht:P.underlying t=some (.slice e))(hi:(P.info? e).map (fun i=>(i.zero,i.size,i.bytes))=some (some z,sz,bytes))(hzs:z.cells.size=sz)(hsz:0<sz)(hb0:0<bytes){a1:Option Addr}{n c1:Nat}{xs:List Value}(hs:a.eval s=.slice a1 n c1)(hown:w.ownsRow base e sz (.slice a1 n c1) n xs){a2:Option Addr}{m c2:Nat}{news:List Value}(hx:a.eval x=.slice a2 m c2)(hsrc:wh w sz a2 m c2 news)(h1:∀ u∈news,u.oneCell'=true)(hbytes:(n+m)*bytes<=140737488355328)(hbase:base<=w.heap.size)(h:∀ a' c' w',w'.ownsRow base e sz (.slice a' (n+m) c') (n+m) (xs++news)->w.grownBy w' (Value.slice a1 n c1).ownBlock->wpList P ops Q rest (a.put o.dst (.slice a' (n+m) c')) w'):wpList P ops Q (o::rest) a w:=by
 obtain⟨i,hi,hz0,hz1,hz2⟩:=info_parts hi
 cases a2 with
 | none =>
  obtain⟨rfl,rfl⟩:=hsrc.2.2.2.2 rfl;have hnews:news=[]:=O8 (by simpa using hsrc.1);subst hnews;refine wpList_plain hgd fun K hK'=>?_
  have hrun:=run_append_owned_none (P:=P) w base t o.type e i sz ht hi _ n xs hown;unfold Oper.wp;simp[execOp,ho,resolve,invoke,builtin,hs,hx,hrun,Result.andThen];exact hK' _ _ (by simpa using h a1 c1 w (by simpa using hown) (World.grownBy.refl _ _))
 | some ad =>
  have hle:n+m<=(n+m)*bytes:=qca _ hb0;refine wpList_append_own w hgd s x t ho base e i z sz bytes ht hi hz0 hz1 hz2 hzs hsz _ n xs hs hown ad m c2 news hx hsrc.1 (fun j u hj=>?_) h1 (by unfold maxLen;omega) hbytes hbase (fun v' w' h2 h3 _=>?_)
  .obtain⟨x,hx,hc⟩:=hsrc.2.2.2.1 j u hj
   cases hx
   exact hc
  .obtain⟨a',c',rfl⟩:=yT h2;exact h a' c' w' h2 h3
theorem aT(hgd:o.guard=none)(src dst:TypeId)(x:Operand)(ho:o.op=.convert src dst x){e:TypeId}(hs:P.underlying src=some (.slice e))(he:P.underlying e=some (.int .u8))(hd:P.underlying dst=some .string){ao:Option Addr}{n c:Nat}{l:List UInt8}(hx:a.eval x=.slice ao n c)(hb:Bs w ao n c l)(h:wpList P ops Q rest (a.put o.dst (.string ⟨l.toArray⟩)) w):wpList P ops Q (o::rest) a w:=by
 refine bI hgd (.string ⟨l.toArray⟩) w ?_ h;have hr:(convert src dst (.slice ao n c)).run P w=.ok (.string ⟨l.toArray⟩) w:=by
  cases ao with
  | none =>
   obtain⟨rfl,rfl⟩:=hb.2.2.2.2 rfl;have:l=[]:=O8 hb.len;subst this;exact run_convert_bytes_nil w src e hs he 0 0 dst hd
  | some ad =>
   obtain rfl:=hb.len;exact run_convert_bytes_back w src dst e ad c l hs he hd (fun j hj=>by
    obtain⟨x,hx,hc⟩:=hb.2.2.2.1 j (jJ l[j]) (by simp[kM hj])
    cases hx
    exact hc)
 simp[execOp,ho,hx,hr,Result.andThen]
theorem bytesWorld_below(w:World)(e:TypeId)(s:ByteArray):Below w.heap.size w (Lib.bytesWorld w e s) :=⟨by simp[Lib.bytesWorld,World.freeze];rfl,by simp[Lib.bytesWorld,World.freeze],by simp[Lib.bytesWorld,World.freeze];rfl,by rw[Lib.bytesWorld_size];omega,fun k hk=>Lib.bytesWorld_at_old w e s k hk⟩
theorem FC(w:World)(e:TypeId)(l:List UInt8)(h:l.length<=140737488355328):Bs (Lib.bytesWorld w e ⟨l.toArray⟩) (some ⟨w.heap.size,0,none⟩) l.length (grownCap w l.length 0 e) l:=by
 refine⟨by simp,grownCap_ge w _ 0 e,grownCap_le_maxLen w _ 0 e (by unfold maxLen;omega),fun j v hj=>⟨_,rfl,?_⟩,fun h=>by cases h⟩;rw[Addr.add_lit,lU];have hjl:j<l.length:=by have:=(qbl.1 hj).1;simpa using this
 rw[Lib.bytesWorld_cell w e ⟨l.toArray⟩ j (by simpa[ByteArray.size] using hjl)];simp[kM hjl] at hj;subst hj;simp[List.getD,kM hjl,jJ]
theorem H9{w:World}{ao:Option Addr}{n c:Nat}{l:List UInt8}(hb:Bs w ao n c l)(lo hi:Nat)(h1:lo<=hi)(h2:hi<=n):Bs w (if c=lo then ao else ao.map (·.add (lo*1))) (hi-lo) (c-lo) ((l.take hi).drop lo):=by
 have hl:=hb.len;have hc:=hb.cap;have hm:=hb.max;refine⟨by simp;omega,by omega,by unfold maxLen;omega,fun j v hj=>?_,fun hn=>?_⟩
 .simp only[qce,qbZ,qbE,VX] at hj;split at hj
  .rename_i hlt
   obtain⟨x,hx,hcell⟩:=hb.2.2.2.1 (lo+j) v hj;subst hx;have hne:¬ c=lo:=by omega
   rw[if_neg hne];refine⟨x.add (lo*1),rfl,?_⟩;rw[Go.Deep.add_add,qbK];exact hcell
  .cases hj
 .split at hn
  .obtain⟨h3,h4⟩:=hb.2.2.2.2 hn;omega
  .have:ao=none:=by cases ao <;> simp_all
   obtain⟨h3,h4⟩:=hb.2.2.2.2 this;omega
theorem gI(hgd:o.guard=none)(t:TypeId)(x:Operand)(lo hi:Option Operand)(ho:o.op=.slice t x lo hi none){e:TypeId}(ht:P.underlying t=some (.slice e))(hsz:(P.info? e).map (·.size)=some 1){ao:Option Addr}{n c:Nat}{l:List UInt8}(hx:a.eval x=.slice ao n c)(hb:Bs w ao n c l)(L M:Nat)(k1 k2:IntKind)(hL:match lo with|some p=>a.eval p=.int k1 (L:Int)|none=>L=0)(hM:match hi with|some p=>a.eval p=.int k2 (M:Int)|none=>M=n)(h1:L<=M)(h2:M<=n)(h:∀ a',Bs w a' (M-L) (c-L) ((l.take M).drop L)->wpList P ops Q rest (a.put o.dst (.slice a' (M-L) (c-L))) w):wpList P ops Q (o::rest) a w:=by
 have hcap:=hb.cap;refine bI hgd _ _ ?_ (h _ (H9 hb L M h1 h2));obtain⟨i,hi',hs'⟩:=zA.1 hsz;have e1:(L:Int)<=M:=by omega
 have e2:(M:Int)<=c:=by omega
 have e3:(n:Int)<=c:=by omega
 have e4:(L:Int)<=n:=by omega
 have f2:M<=c:=by omega
 have f4:L<=n:=by omega
 cases lo <;> cases hi <;> simp only at hL hM
 all_goals first|subst hL|skip
 all_goals first|subst hM|skip
 all_goals simp[execOp,Instr.sliceAt,Instr.slice,Instr.sliceBounds,Instr.sliceBound,run_underlying ht,sizeOf,typeInfo,asIntOf,Result.andThen, *]
end laws
theorem yx{α:Type}{f:α->List Value}{sz:Nat}(hf:∀ x,(f x).length=sz):∀ (l:List α)(k j:Nat)(hk:k<l.length),j<sz->(l.flatMap f)[k*sz+j]? = (f l[k])[j]?
 | [],k,j,hk,_=>by simp at hk
 | x::l,0,j,_,hj=>by simp[qbr,qbm,hf x,hj]
 | x::l,k+1,j,hk,hj=>by
  have ih:=yx hf l k j (by simpa using hk) hj;rw[qbr,qb0 (by rw[hf x,qcu];omega),hf x];have e:(k+1)*sz+j-sz=k*sz+j:=by rw[qcu];omega
  rw[e,ih];rfl
theorem Kh{α:Type}{f:α->List Value}{sz:Nat}(hf:∀ x,(f x).length=sz)(l:List α):(l.flatMap f).length=l.length*sz:=by
 induction l with
 | nil=>simp
 | cons x l ih=>rw[qbr,vG,hf x,ih,oH,qcu];omega
theorem aax{k:IntKind}{a b:Int}(h:a=b):Ending.returned (.int k a)=.returned (.int k b):=by rw[h]
theorem yw{a b:Bool}(h:a=b):Ending.returned (.bool a)=.returned (.bool b):=by rw[h]
theorem aat{a b:ByteArray}(h:a=b):Ending.returned (.string a)=.returned (.string b):=by rw[h]
theorem ab6{α:Type}[BEq α][LawfulBEq α]{a b:α}(h:¬ a=b):(a != b)=true:=by simp[h]
theorem Rf{α:Type}[BEq α][LawfulBEq α]{a b:α}(h:a=b):(a != b)=false:=by simp[h]
theorem uQ{p:Prop}[Decidable p](h:p):decide p=true:=by simp[h]
theorem uU{p:Prop}[Decidable p](h:¬ p):decide p=false:=by simp[h]
theorem EW{l m:List UInt8}(h:l.length=m.length)(hk:∀ k,k<l.length->l.getD k 0=m.getD k 0):l=m:=by
 apply List.ext_getElem h;intro i h1 h2;have:=hk i h1;simpa[List.getD,kM h1,kM h2] using this
theorem oO(l:List UInt8)(k:Nat)(h:k<l.length):(⟨l.toArray⟩:ByteArray)[k]'(by simpa[ByteArray.size] using h)=l.getD k 0:=by
 simp[ByteArray.getElem_eq_getElem_data,List.getD,kM h]
theorem sD(b:UInt8):(b.toNat:Int)<256:=by have:=b.toNat_lt;omega
end
section
open Go.Lib
def bg(c:UInt8):Bool:=decide (48<=c.toNat/\c.toNat<=57)
theorem jy(c:UInt8):bg c=true↔48<=c.toNat/\c.toNat<=57:=by simp[bg]
def bD(v:Nat)(l:List UInt8):Nat:=l.foldl (fun v c=>v*10+(c.toNat - 48)) v
theorem lJ(v:Nat)(c:UInt8)(l:List UInt8):bD v (c::l)=bD (v*10+(c.toNat - 48)) l:=by simp only[bD,Xu]
theorem qF(v:Nat):bD v []=v:=by simp only[bD,List.foldl_nil]
theorem Dg(v:Nat)(a b:List UInt8):bD v (a++b)=bD (bD v a) b:=by simp[bD,qbd]
theorem NU(v:Nat)(a:List UInt8)(c:UInt8):bD v (a++[c])=bD v a*10+(c.toNat - 48):=by rw[Dg,lJ,qF]
theorem zf:∀ (l:List UInt8)(v:Nat),v<=bD v l
 | [],v=>by rw[qF];exact aY v
 | c::l,v=>by rw[lJ];have:=zf l (v*10+(c.toNat - 48));omega
theorem wV(M:Nat)(hM:M=18446744073709551615)(l:List UInt8):∀ (acc:Nat),l.all bg=true->acc<=M->parseUintM M acc l=if bD acc l<=M then .ok (bD acc l) else .range:=by
 induction l with
 | nil =>
  intro acc _ h;rw[parseUintM,qF,if_pos h]
 | cons c l ih =>
  intro acc hd h;rw[JJ,fE,jy] at hd;have hle:=zf l (acc*10+(c.toNat - 48));rw[parseUintM,if_pos hd.1,lJ];by_cases h1:1844674407370955162<=acc
  .rw[if_pos h1,if_neg (by omega)]
  .rw[if_neg h1];by_cases h2:M<acc*10+(c.toNat - 48)
   .rw[if_pos h2,if_neg (by omega)]
   .rw[if_neg h2];exact ih _ hd.2 (by omega)
theorem yP(l:List UInt8)(hne:l≠[])(hd:l.all bg=true):parseIntB 64 l=if bD 0 l<=9223372036854775807 then .ok ((bD 0 l:Nat):Int) else .range:=by
 cases l with
 | nil=>exact absurd rfl hne
 | cons c r =>
  have hc:=hd;rw[JJ,fE,jy] at hc;have n1:¬ (c.toNat=43\/c.toNat=45):=by omega
  have n2:¬ c.toNat=45:=by omega
  have hu:parseUintB 64 (c::r)=if bD 0 (c::r)<=18446744073709551615 then .ok (bD 0 (c::r)) else .range:=by
   rw[parseUintB,if_neg (by simp)];exact wV (2^64 - 1) (by decide) (c::r) 0 hd (M8 _)
  unfold parseIntB;simp only[if_neg n1,hu];by_cases h1:bD 0 (c::r)<=18446744073709551615
  .simp only[if_pos h1];by_cases h2:bD 0 (c::r)<=9223372036854775807
   .rw[if_pos h2,if_neg (by omega),if_neg (by omega),if_neg n2]
   .rw[if_neg h2,if_pos (by omega)]
  .simp only[if_neg h1];rw[if_neg (by omega)]
def Plain.decimal(l:List UInt8):Int×Int :=
 if l=[]\/(l.getD 0 0=48/\1<l.length)\/l.all bg=false then(0,10)
 else if bD 0 l<=9223372036854775807 then(((bD 0 l:Nat):Int),0) else(0,11)
theorem IY(u:Nat):decDigits u≠[]:=by
 rw[decDigits];split <;> simp
def nU(r:Int×Int):Value:=.tuple #[.int .i64 r.1,.int .i64 r.2]
end
theorem Plain.gu(l:List UInt8)(h:l=[]\/(l.getD 0 0=48/\1<l.length)\/l.all bg=false):Plain.decimal l=(0,10):=if_pos h
theorem Plain.xE(l:List UInt8)(h:¬ (l=[]\/(l.getD 0 0=48/\1<l.length)\/l.all bg=false))(h2:bD 0 l<=9223372036854775807):Plain.decimal l=(((bD 0 l:Nat):Int),0):=by
 unfold Plain.decimal;rw[if_neg h,if_pos h2]
theorem Plain.xJ(l:List UInt8)(h:¬ (l=[]\/(l.getD 0 0=48/\1<l.length)\/l.all bg=false))(h2:¬ bD 0 l<=9223372036854775807):Plain.decimal l=(0,11):=by
 unfold Plain.decimal;rw[if_neg h,if_neg h2]
theorem wC(l:List UInt8)(k:Nat)(h:k<l.length)(ih:(l.take k).all bg=true)(hd:48<=(l.getD k 0).toNat/\(l.getD k 0).toNat<=57):(l.take (k+1)).all bg=true:=by
 have hg:l.getD k 0=l[k]:=by simp[List.getD,kM h]
 have h1:bg (l.getD k 0)=true:=(jy _).2 hd;rw[Nh h,qcp,ih,<-hg,JJ,h1];rfl
theorem Em(l:List UInt8)(k:Nat)(h:k<l.length)(hd:¬ (48<=(l.getD k 0).toNat/\(l.getD k 0).toNat<=57)):l.all bg=false:=by
 have hg:l.getD k 0=l[k]:=by simp[List.getD,kM h]
 cases ha:l.all bg with
 | false=>rfl
 | true =>
  have:=(Ej.1 ha) l[k] (VE h);rw[jy,<-hg] at this;exact absurd this hd
theorem LH(l:List UInt8)(k:Nat)(h:k<l.length):bD 0 (l.take (k+1))=bD 0 (l.take k)*10+((l.getD k 0).toNat - 48):=by
 have hg:l.getD k 0=l[k]:=by simp[List.getD,kM h]
 rw[Nh h,NU,hg]
theorem C9(l:List UInt8)(k:Nat):bD 0 (l.take k)<=bD 0 l:=by
 have h:=Dg 0 (l.take k) (l.drop k);rw[qbh] at h;rw[h];exact zf _ _
theorem ad8(l:List UInt8)(k:Nat)(h:k<l.length)(ha:l.all bg=true):48<=(l.getD k 0).toNat/\(l.getD k 0).toNat<=57:=by
 have hg:l.getD k 0=l[k]:=by simp[List.getD,kM h]
 rw[hg,<-jy];exact(Ej.1 ha) l[k] (VE h)
theorem BF(l:List UInt8)(h:¬ (l.getD 0 0=48/\1<l.length)):(((l.getD 0 0).toNat:Int)==48)=false\/(l.getD 0 0=48/\¬ 1<(l.length:Int)):=by
 by_cases h1:l.getD 0 0=48
 .exact .inr ⟨h1,fun h2=>h ⟨h1,by omega⟩⟩
 .refine .inl ?_;rw[beq_eq_false_iff_ne];intro h2;exact h1 (VL.1 (by simpa using(by omega:(l.getD 0 0).toNat=48)))
theorem MI(l:List UInt8)(h:¬ (l.getD 0 0=48/\1<l.length)):¬ 1<(l.length:Int)\/(1<(l.length:Int)/\(((l.getD 0 0).toNat:Int)==48)=false):=by
 rcases BF l h with h1|h1
 .by_cases h2:1<(l.length:Int)
  .exact .inr ⟨h2,h1⟩
  .exact .inl h2
 .exact .inl h1.2
theorem VF(l:List UInt8)(w:World)(hl:l.length<=140737488351232):Calls qp0 157 #[.string ⟨l.toArray⟩] w fun e w'=>e=.returned (nU (Plain.decimal l))/\w=w':=by
 by_cases c1:l=[]
 .subst c1;rw[Plain.gu [] (.inl rfl)];go_enter func157,ntmps157;go_wp2
  go_ret2;exact⟨rfl,rfl⟩
 .have Zw:l.isEmpty=false:=by simpa using c1
  have c0:0<l.length:=by cases l;exact absurd rfl c1;simp
  have hx0:=oO l 0 c0;by_cases c2:l.getD 0 0=48/\1<l.length
  .rw[Plain.gu l (.inr (.inl c2))];have h1:1<(l.length:Int):=by omega
   rw[c2.1] at hx0;clear c2;go_enter func157,ntmps157;go_wp2
   go_ret2;exact⟨rfl,rfl⟩
  .have hbad:l.all bg=true->¬ (l=[]\/(l.getD 0 0=48/\1<l.length)\/l.all bg=false):=by
    rintro ha (h|h|h)
    .exact c1 h
    .exact c2 h
    .rw[ha] at h;cases h
   have HBAD:=ah hbad;clear hbad;have hh:=BF l c2;generalize hr:Plain.decimal l=r;have HR:=ah hr;clear hr;clear c1 c2;generalize l.getD 0 0=g0 at hx0 hh;rcases hh with hh|⟨rfl,hh⟩
   all_goals
    go_enter func157,ntmps157;go_wp2
    go_loop [4] (fun i=>∃ k:Nat,k<=l.length/\i=.int .i64 k/\Hid ((l.take k).all bg=true)) (fun i=>l.length-(intOf i).toNat)
    case atStart=>exact⟨0,by omega,rfl,(rfl:(l.take 0).all bg=true)⟩
    case round =>
     obtain⟨k,hk,rfl,hz⟩:=hrel;by_cases hlt:k<l.length
     .have hkn:(k:Int)<(l.length:Int):=by omega
      have hx:=oO l k hlt;have hstep:=wC l k hlt hz.out;have hno:=Em l k hlt;generalize l.getD k 0=g at hx hstep hno;have HS:=ah hstep;have VZ:=ah hno;clear hstep hno;by_cases d1:(g.toNat:Int)<48
      .have hf:=(HR.out.symm.trans (Plain.gu l (.inr (.inr (VZ.out (by omega))))));subst hf;go_wp2
       go_ret2;exact⟨rfl,rfl⟩
      .by_cases d2:(57:Int)<g.toNat
       .have hf:=(HR.out.symm.trans (Plain.gu l (.inr (.inr (VZ.out (by omega))))));subst hf;go_wp2
        go_ret2;exact⟨rfl,rfl⟩
       .have hs:=ah (HS.out (by omega));go_wp2
        go_round
        case rel=>exact⟨k+1,by omega,by go_num,hs⟩
        case measure=>simp[intOf];omega
     .obtain rfl:k=l.length:=by omega
      have hall:l.all bg=true:=by have:=hz.out;rwa [qbA] at this
      have KA:=ah hall;clear hall hz;go_wp2
      go_loop [6,5] (fun i v=>∃ j:Nat,j<=l.length/\i=.int .i64 j/\v=.int .i64 (bD 0 (l.take j):Nat)/\bD 0 (l.take j)<=9223372036854775807) (fun i _=>l.length-(intOf i).toNat)
      case atStart=>exact⟨0,by omega,rfl,rfl,by simp[bD]⟩
      case round =>
       obtain⟨j,hj,rfl,rfl,hv⟩:=hrel;by_cases hlt2:j<l.length
       .have hjn:(j:Int)<(l.length:Int):=by omega
        have hx:=oO l j hlt2;have hdig:=ad8 l j hlt2 KA.out;have hst:=LH l j hlt2;have hle:=C9 l (j+1);generalize bD 0 (l.take j)=v at *
        generalize aey:bD 0 (l.take (j+1))=v2 at *
        have HV2:=ah aey;clear aey;generalize l.getD j 0=g at *
        by_cases hov:v2<=9223372036854775807
        .have ahA:(48:Int)<=g.toNat:=by omega
         have agB:(g.toNat:Int)<=57:=by omega
         have hno:¬ (9223372036854775807-((g.toNat:Int) - 48)) / 10<v:=by omega
         have hb1:(v:Int)*10+((g.toNat:Int) - 48)<=9223372036854775807:=by omega
         go_wp2
         exact⟨⟨j+1,by omega,by go_num,by rw[HV2.out,hst];congr 1;omega,by rw[HV2.out];exact hov⟩,by simp[intOf];omega⟩
        .have ahA:(48:Int)<=g.toNat:=by omega
         have agB:(g.toNat:Int)<=57:=by omega
         have hyes:(9223372036854775807-((g.toNat:Int) - 48)) / 10<v:=by omega
         have hf:=HR.out.symm.trans (Plain.xJ l (HBAD.out KA.out) (by omega));subst hf;go_wp2
         go_ret2;exact⟨rfl,rfl⟩
       .obtain rfl:j=l.length:=by omega
        rw[qbA] at hv;have hf:=HR.out.symm.trans (Plain.xE l (HBAD.out KA.out) hv);subst hf;rw[qbA];go_wp2
        go_ret2;exact⟨rfl,rfl⟩
def eO(w:World)(ev:Value):Prop:=w.cell? ⟨3,0,none⟩=some ev/\∃ te pe,ev=.iface te pe
theorem eO.below{w w':World}{ev:Value}(h:eO w ev)(k:Below w.heap.size w w'):eO w' ev:=⟨Below.keeps k _ _ h.1,h.2⟩
theorem lM(l:List UInt8)(w:World)(ev:Value)(hl:l.length<=140737488351232)(hE:eO w ev):Calls qp0 219 #[.string ⟨l.toArray⟩] w fun e w'=>e=.returned (nU (Plain.decimal l))/\Below w.heap.size w w':=by
 by_cases c1:l=[]
 .subst c1;rw[Plain.gu [] (.inl rfl)];go_enter func219,ntmps219;go_wp2
  go_ret2;exact⟨rfl,Below.refl _ _⟩
 .have Zw:l.isEmpty=false:=by simpa using c1
  have c0:0<l.length:=by cases l;exact absurd rfl c1;simp
  have hx0:=oO l 0 c0;by_cases c2:l.getD 0 0=48/\1<l.length
  .rw[Plain.gu l (.inr (.inl c2))];have h1:1<(l.length:Int):=by omega
   rw[c2.1] at hx0;clear c2;go_enter func219,ntmps219;go_wp2
   go_ret2;exact⟨rfl,Below.refl _ _⟩
  .have hbad:l.all bg=true->¬ (l=[]\/(l.getD 0 0=48/\1<l.length)\/l.all bg=false):=by
    rintro ha (h|h|h)
    .exact c1 h
    .exact c2 h
    .rw[ha] at h;cases h
   have HBAD:=ah hbad;clear hbad;have HNE:=ah c1;have hh:=MI l c2;generalize hr:Plain.decimal l=r;have HR:=ah hr;clear hr;clear c1 c2;generalize l.getD 0 0=g0 at hx0 hh;rcases hh with hh|⟨hh,hh2⟩
   all_goals
    go_enter func219,ntmps219;go_wp2
    go_loop [21] (fun i=>∃ k:Nat,k<=l.length/\i=.int .i64 k/\Hid ((l.take k).all bg=true)) (fun i=>l.length-(intOf i).toNat)
    case atStart=>exact⟨0,by omega,rfl,(rfl:(l.take 0).all bg=true)⟩
    case round =>
     obtain⟨k,hk,rfl,hz⟩:=hrel;by_cases hlt:k<l.length
     .have hkn:(k:Int)<(l.length:Int):=by omega
      have hx:=oO l k hlt;have hstep:=wC l k hlt hz.out;have hno:=Em l k hlt;generalize l.getD k 0=g at hx hstep hno;have HS:=ah hstep;have VZ:=ah hno;clear hstep hno;by_cases d1:(g.toNat:Int)<48
      .have hf:=(HR.out.symm.trans (Plain.gu l (.inr (.inr (VZ.out (by omega))))));subst hf;go_wp2
       go_ret2;exact⟨rfl,Below.refl _ _⟩
      .by_cases d2:(57:Int)<g.toNat
       .have hf:=(HR.out.symm.trans (Plain.gu l (.inr (.inr (VZ.out (by omega))))));subst hf;go_wp2
        go_ret2;exact⟨rfl,Below.refl _ _⟩
       .have hs:=ah (HS.out (by omega));go_wp2
        go_round
        case rel=>exact⟨k+1,by omega,by go_num,hs⟩
        case measure=>simp[intOf];omega
     .obtain rfl:k=l.length:=by omega
      have hall:l.all bg=true:=by have:=hz.out;rwa [qbA] at this
      have hp:=yP l HNE.out hall;by_cases hov:bD 0 l<=9223372036854775807
      .rw[if_pos hov] at hp;have hf:=HR.out.symm.trans (Plain.xE l (HBAD.out hall) hov);subst hf;have HP:=ah hp;clear hp hall hz;generalize hv:bD 0 l=v at *
       have HV:=ah hv;clear hv;go_wp2_with (go_at_call 143;refine(Tryz.strconv_ParseInt_10_at64_ok _ (by simp[ByteArray.size];omega) (v:Int) HP.out _).mono ?_;rintro e w1 ⟨rfl,hw1⟩;have HW:=ah hw1;clear hw1)
       go_ret2;refine⟨by rw[HV.out];rfl,?_⟩;rcases HW.out with h|⟨t,h⟩
       .rw[h];exact Below.refl _ _
       .rw[h];exact Lib.bytesWorld_below _ _ _
      .rw[if_neg hov] at hp;have hf:=HR.out.symm.trans (Plain.xJ l (HBAD.out hall) hov);subst hf;have HP:=ah hp;clear hp hall hz;obtain⟨he1,te,pe,rfl⟩:=hE;have HE:=ah he1;clear he1;generalize aeR:Lib.intSat 64 l=sat;have ahq:=ah aeR;clear aeR;go_wp2_with (go_at_call 143;refine(Tryz.strconv_ParseInt_10_at64_range _ (by simp[ByteArray.size];omega) HP.out _ _ HE.out (Or.inr ⟨te,pe,rfl⟩)).mono ?_;rintro e w1 ⟨N,rfl,hN1,hN2,hb1⟩;have HN1:=ah hN1;have UL:=ah hN2;clear hN1 hN2;try rw[ahq.out])
       go_ret2;exact⟨rfl,hb1⟩
theorem V6:(qp0.info? 5).map (fun i=>(i.zero,i.size,i.bytes))=some (some (.int .u8 0),1,1):=by kernel_rfl
def alM(w:World)(l:List UInt8)(e:Ending)(w':World):Prop :=∃ a n c,e=.returned (.slice a n c)/\w'.ownsRow w.heap.size 5 1 (.slice a n c) n (l.map jJ)/\Below w.heap.size w w'
theorem Bh{w:World}{base:Nat}{e:TypeId}{v:Value}{n:Nat}{l:List UInt8}(h:w.ownsRow base e 1 v n (l.map jJ)):l.length=n:=by have:=h.1;simpa using this
theorem OY{w:World}{base:Nat}{e:TypeId}{a:Option Addr}{n c:Nat}{l:List UInt8}(h:w.ownsRow base e 1 (.slice a n c) n (l.map jJ)):Bs w a n c l:=rP h
theorem akR(a:Option Addr)(n c:Nat)(x:List UInt8)(w:World)(ha:Bs w a n c x)(hn:n<=140737488355328):Calls qp0 20 #[.slice a n c] w (alM w x):=by
 obtain rfl:=ha.len;have ho0:=World.ownsRow_lit (base:=w.heap.size) (e:=5) (size:=1) w #[] 0 (aY _) (by decide) rfl;go_enter func20,ntmps20;go_wp2_with (at_builtin;refine nJ rfl _ _ 22 rfl w.heap.size 5 _ 1 1 underlying22 V6 rfl (by decide) (by decide) rfl ho0 rfl ((Keeps.alloc w _).bs ha) (kY x) (by omega) (by simp) ?_;intro a1 c1 w1 ho hg)
 go_ret;simp only[lU,yG] at ho ⊢;exact⟨a1,_,c1,rfl,ho,below_app ((Below.refl _ _).alloc (aY _) _) ho0 hg (aY _) (by simp)⟩
def lV(w:World):Prop:=Lib.TabIs qp0 w "internal/strconv.uint64pow10" .u64 Lib.pow10Tab
theorem Pm(B:Nat)(w:World)(q:Nat)(os:Array Obj)(hB:B<=w.heap.size):Below B w (Sort.grow (w.drewN q) os) :=⟨rfl,rfl,rfl,by first|(simp[Sort.grow];done)|(simp[Sort.grow];omega),fun i hi=>by
  show((w.drewN q).heap++os)[i]? = _;rw[Array.getElem?_append_left (by show i<w.heap.size;omega)];rfl⟩
theorem Za:qp0.globalNamed "internal/strconv.uint64pow10"=some 1:=by kernel_rfl
theorem lV.below{w w':World}(h:lV w)(k:Below w.heap.size w w'):lV w':=Joins.tab_stays Za h k (aY _)
theorem Vr(v:Int)(h0:-9223372036854775808<=v)(h1:v<=9223372036854775807)(w:World)(ht:lV w):Calls qp0 91 #[.int .i64 v] w fun e w'=>e=.returned (.string ⟨(Lib.itoa v).toArray⟩)/\Below w.heap.size w w':=by
 have HT:=ah ht;clear ht;have hi:=ah (Tryz.strconv_Itoa v h0 h1 w HT.out);generalize Lib.itoa v=s at *
 go_enter func91,ntmps91;go_wp2_with (go_at_call 128;refine(hi.out).mono ?_;rintro e w1 ⟨rfl,k,os,hw⟩;have HW:=ah hw;clear hw)
 go_ret;exact⟨rfl,by rw[HW.out];exact Pm _ _ _ _ (aY _)⟩
theorem uK:∀ (k u:Nat),u<10^(k+1)->(Lib.decDigits u).length<=k+1
 | 0,u,h=>by rw[Lib.decDigits,dif_pos (by simpa using h)];simp
 | k+1,u,h=>by
  rw[Lib.decDigits];by_cases h1:u<10
  .rw[dif_pos h1];simp
  .have:=uK k (u / 10) (by rw[qbN] at h;omega);rw[dif_neg h1,vG];simp;omega
section
open Go.Conc
namespace Sr
def AR(R:Nat->Nat->Prop)(a b:Addr):Prop:=R a.block b.block/\a.off=b.off/\a.spot=b.spot
inductive VR(R:Nat->Nat->Prop)(L:FuncId->Bool):Value->Value->Prop
 | bool (b:Bool):VR R L (.bool b) (.bool b)
 | int (k:IntKind) (n:Int):VR R L (.int k n) (.int k n)
 | string (s:ByteArray):VR R L (.string s) (.string s)
 | gV:VR R L (.pointer none) (.pointer none)
 | ptr (a b:Addr) (h:AR R a b):VR R L (.pointer (some a)) (.pointer (some b))
 | iq (n c:Nat):VR R L (.slice none n c) (.slice none n c)
 | slice (a b:Addr) (n c:Nat) (h:AR R a b):VR R L (.slice (some a) n c) (.slice (some b) n c)
 | fV:VR R L (.map none) (.map none)
 | map (r s:Nat) (h:R r s):VR R L (.map (some r)) (.map (some s))
 | chan (r:Option Nat):VR R L (.chan r) (.chan r)
 | func (f:FuncId) (hf:L f=true) (x c y d:Array Value) (hx:x.size=y.size) (hxv:∀ (i:Nat)(v w:Value),x[i]? = some v->y[i]? = some w->VR R L v w)
   (hc:c.size=d.size) (hcv:∀ (i:Nat)(v w:Value),c[i]? = some v->d[i]? = some w->VR R L v w):VR R L (.func (.func f) x c) (.func (.func f) y d)
 | nilFunc:VR R L .nilFunc .nilFunc
 | iface (t:TypeId) (v w:Value) (h:VR R L v w):VR R L (.iface t v) (.iface t w)
 | tJ (t:TypeId) (a:Addr) (ht:L (2*t+1000000000)=true) (ha:L (2*a.block+1000000001)=true):VR R L (.iface t (.pointer (some a))) (.iface t (.pointer (some a)))
 | nilIface:VR R L .nilIface .nilIface
 | agg (x y:Array Value) (hx:x.size=y.size) (hv:∀ (i:Nat)(v w:Value),x[i]? = some v->y[i]? = some w->VR R L v w):VR R L (.agg x) (.agg y)
 | tuple (x y:Array Value) (hx:x.size=y.size) (hv:∀ (i:Nat)(v w:Value),x[i]? = some v->y[i]? = some w->VR R L v w):VR R L (.tuple x) (.tuple y)
section
variable {R R':Nat->Nat->Prop}{L:FuncId->Bool}
def AV(R:Nat->Nat->Prop)(L:FuncId->Bool)(x y:Array Value):Prop:=x.size=y.size/\∀ (i:Nat)(v w:Value),x[i]? = some v->y[i]? = some w->VR R L v w
theorem AR.mono{a b:Addr}(h:AR R a b)(hR:∀ a b,R a b->R' a b):AR R' a b:=⟨hR _ _ h.1,h.2⟩
theorem VR.mono(hR:∀ a b,R a b->R' a b){v w:Value}(h:VR R L v w):VR R' L v w:=by
 induction h with
 | bool b=>exact .bool b
 | int k n=>exact .int k n
 | string s=>exact .string s
 | gV=>exact .gV
 | ptr a b h=>exact .ptr a b (h.mono hR)
 | iq n c=>exact .iq n c
 | slice a b n c h=>exact .slice a b n c (h.mono hR)
 | fV=>exact .fV
 | map r s h=>exact .map r s (hR _ _ h)
 | chan r=>exact .chan r
 | func f hf x c y d hx hxv hc hcv ih1 ih2=>exact .func f hf x c y d hx ih1 hc ih2
 | nilFunc=>exact .nilFunc
 | iface t v w h ih=>exact .iface t v w ih
 | tJ t a ht ha=>exact .tJ t a ht ha
 | nilIface=>exact .nilIface
 | agg x y hx hv ih=>exact .agg x y hx ih
 | tuple x y hx hv ih=>exact .tuple x y hx ih
theorem AV.mono(hR:∀ a b,R a b->R' a b){x y:Array Value}(h:AV R L x y):AV R' L x y:=⟨h.1,fun i v w hv hw=>(h.2 i v w hv hw).mono hR⟩
theorem VR.DC{x y:Array Value}(h:AV R L x y):VR R L (.agg x) (.agg y):=.agg x y h.1 h.2
theorem VR.q9{x y:Array Value}(h:AV R L x y):VR R L (.tuple x) (.tuple y):=.tuple x y h.1 h.2
theorem AV.nil:AV R L #[] #[]:=⟨rfl,fun i v w h _=>by simp at h⟩
theorem AV.get{x y:Array Value}(h:AV R L x y)(i:Nat):(x[i]? = none/\y[i]? = none)\/∃ v w,x[i]? = some v/\y[i]? = some w/\VR R L v w:=by
 cases hx:x[i]? with
 | none =>
  refine .inl ⟨rfl,?_⟩;rw[Array.getElem?_eq_none_iff] at hx ⊢;rw[<-h.1];exact hx
 | some v =>
  have hlt:i<y.size:=by rw[<-h.1];exact(fT.1 hx).1
  exact .inr ⟨v,y[i],rfl,mJ hlt,h.2 i _ _ hx (mJ hlt)⟩
theorem AV.push{x y:Array Value}(h:AV R L x y){v w:Value}(hv:VR R L v w):AV R L (x.push v) (y.push w):=by
 refine⟨by simp[h.1],fun i a b ha hb=>?_⟩;rw[Qi] at ha hb;split at ha
 .rw[<-h.1] at hb;rename_i hi
  rw[if_pos hi] at hb
  cases ha;cases hb;exact hv
 .rw[<-h.1] at hb;rename_i hi
  rw[if_neg hi] at hb;exact h.2 i a b ha hb
theorem AV.app{x y a b:Array Value}(h:AV R L x y)(k:AV R L a b):AV R L (x++a) (y++b):=by
 refine⟨by simp[h.1,k.1],fun i v w hv hw=>?_⟩;rw[qci] at hv hw;rw[<-h.1] at hw;split at hv
 .rename_i hi
  rw[if_pos hi] at hw;exact h.2 i v w hv hw
 .rename_i hi
  rw[if_neg hi] at hw;exact k.2 _ v w hv hw
theorem AV.extract{x y:Array Value}(h:AV R L x y)(a b:Nat):AV R L (x.extract a b) (y.extract a b):=by
 refine⟨by simp[h.1],fun i v w hv hw=>?_⟩;rw[Array.getElem?_extract] at hv hw;rw[<-h.1] at hw;split at hv
 .rename_i hi
  rw[if_pos hi] at hw;exact h.2 _ v w hv hw
 .cases hv
theorem AV.set{x y:Array Value}(h:AV R L x y)(j:Nat){v w:Value}(hv:VR R L v w):AV R L (x.setIfInBounds j v) (y.setIfInBounds j w):=by
 refine⟨by simp[h.1],fun i a b ha hb=>?_⟩;rw[qa2] at ha hb;rw[<-h.1] at hb;split at ha
 .rename_i hij
  rw[if_pos hij] at hb;split at ha
  .rename_i hlt
   rw[if_pos hlt] at hb
   cases ha;cases hb;exact hv
  .cases ha
 .rename_i hij
  rw[if_neg hij] at hb;exact h.2 i a b ha hb
theorem AV.one{v w:Value}(hv:VR R L v w):AV R L #[v] #[w]:=AV.push AV.nil hv
theorem AV.two{v w a b:Value}(hv:VR R L v w)(h2:VR R L a b):AV R L #[v,a] #[w,b]:=AV.push (AV.one hv) h2
theorem AV.three{v w a b c d:Value}(hv:VR R L v w)(h2:VR R L a b)(h3:VR R L c d):AV R L #[v,a,c] #[w,b,d]:=AV.push (AV.two hv h2) h3
theorem AV.abx(n:Nat){v w:Value}(hv:VR R L v w):AV R L (Array.replicate n v) (Array.replicate n w):=by
 refine⟨by simp,fun i a b ha hb=>?_⟩;rw[Array.getElem?_replicate] at ha hb;split at ha
 .rename_i hi
  rw[if_pos hi] at hb
  cases ha;cases hb;exact hv
 .cases ha
theorem AV.getD{x y:Array Value}(h:AV R L x y)(i:Nat){v w:Value}(hv:VR R L v w):VR R L (x.getD i v) (y.getD i w):=by
 rw[Az,Az];rcases h.get i with⟨h1,h2⟩|⟨a,b,h1,h2,h3⟩
 .rw[h1,h2];exact hv
 .rw[h1,h2];exact h3
theorem AV.afy{x y:Array Value}(h:AV R L x y)(i:Nat):VR R L x[i]! y[i]!:=by
 rw[Array.getElem!_eq_getD,Array.getElem!_eq_getD];exact h.getD i (.bool _)
theorem AV.mk'{x y:Array Value}(hs:x.size=y.size)(h:∀ i (h1:i<x.size) (h2:i<y.size),VR R L x[i] y[i]):AV R L x y :=⟨hs,fun i v w hv hw=>by
  obtain⟨h1,rfl⟩:=fT.1 hv;obtain⟨h2,rfl⟩:=fT.1 hw;exact h i h1 h2⟩
theorem AV.abG{α:Type}(l:Array α){f g:α->Value}(h:∀ a,VR R L (f a) (g a)):AV R L (l.map f) (l.map g) :=AV.mk' (by simp) fun i h1 h2=>by simp only[Array.getElem_map];exact h _
theorem dG:VR R L undef undef:=VR.q9 AV.nil
theorem VR.cells{v w:Value}(h:VR R L v w):AV R L v.cells w.cells:=by
 cases h with
 | agg x y hx hv=>exact⟨hx,hv⟩
 | bool b=>exact AV.one (.bool b)
 | int k n=>exact AV.one (.int k n)
 | string s=>exact AV.one (.string s)
 | gV=>exact AV.one .gV
 | ptr a b h=>exact AV.one (.ptr a b h)
 | iq n c=>exact AV.one (.iq n c)
 | slice a b n c h=>exact AV.one (.slice a b n c h)
 | fV=>exact AV.one .fV
 | map r s h=>exact AV.one (.map r s h)
 | chan r=>exact AV.one (.chan r)
 | func f hf x c y d hx hxv hc hcv=>exact AV.one (.func f hf x c y d hx hxv hc hcv)
 | nilFunc=>exact AV.one .nilFunc
 | iface t v w h=>exact AV.one (.iface t v w h)
 | tJ t a ht ha=>exact AV.one (.tJ t a ht ha)
 | nilIface=>exact AV.one .nilIface
 | tuple x y hx hv=>exact AV.one (.tuple x y hx hv)
end
def jh:Nat->Value->Bool
 | 0,_=>false
 | n+1,v=>match v with
  | .bool _|.int ..|.string _|.pointer none|.slice none _ _|.map none|.chan none|.nilFunc|.nilIface=>true
  | .iface _ v=>jh n v
  | .agg x=>x.toList.all (jh n)
  | .tuple x=>x.toList.all (jh n)
  | _=>false
def clean(v:Value):Bool:=jh 40 v
theorem zI{R:Nat->Nat->Prop}{L:FuncId->Bool}:∀ (n:Nat){v:Value},jh n v=true->VR R L v v
 | 0,v,h=>by cases h
 | n+1,v,h=>by
  have all:∀ x:Array Value,x.toList.all (jh n)=true->∀ (i:Nat)(v w:Value),x[i]? = some v->x[i]? = some w->VR R L v w:=fun x hx i v w hv hw=>by
   rw[hv] at hw;cases hw
   rw[Ej] at hx;exact zI n (hx v (by simpa using Array.mem_of_getElem? hv))
  cases v with
  | bool b=>exact .bool b
  | int k n=>exact .int k n
  | float k n=>simp[jh] at h
  | complex k n m=>simp[jh] at h
  | string s=>exact .string s
  | pointer a=>cases a with
   | none=>exact .gV
   | some a=>simp[jh] at h
  | slice a n c=>cases a with
   | none=>exact .iq n c
   | some a=>simp[jh] at h
  | map r=>cases r with
   | none=>exact .fV
   | some r=>simp[jh] at h
  | chan r=>exact .chan r
  | func f x c=>simp[jh] at h
  | nilFunc=>exact .nilFunc
  | nilIface=>exact .nilIface
  | iface t v=>exact .iface t v v (zI n (by simpa only[jh] using h))
  | agg x=>exact .agg x x rfl (all x (by simpa only[jh] using h))
  | tuple x=>exact .tuple x x rfl (all x (by simpa only[jh] using h))
theorem yg{R:Nat->Nat->Prop}{L:FuncId->Bool}{v:Value}(h:clean v=true):VR R L v v:=zI 40 h
structure ER(R:Nat->Nat->Prop)(L:FuncId->Bool)(x y:MapEntry):Prop where
 key:VR R L x.key y.key
 val:VR R L x.val y.val
 born:x.born=y.born
def EV(R:Nat->Nat->Prop)(L:FuncId->Bool)(x y:Array MapEntry):Prop:=x.size=y.size/\∀ (i:Nat)(v w:MapEntry),x[i]? = some v->y[i]? = some w->ER R L v w
inductive OR(R:Nat->Nat->Prop)(L:FuncId->Bool):Obj->Obj->Prop
 | cells (x y:Array Value) (e:TypeId) (f:Nat×Nat) (h:AV R L x y):OR R L (.cells x e f) (.cells y e f)
 | map (x y:Array MapEntry) (c:Nat) (h:EV R L x y):OR R L (.map x c) (.map y c)
 | sit (s:ByteArray) (p:Nat):OR R L (.stringIter s p) (.stringIter s p)
 | fV (a:Nat) (s:Array Nat) (t:Nat):OR R L (.mapIter none a s t) (.mapIter none a s t)
 | number (a b:Addr) (l:Bool) (h:AR R a b):OR R L (.number a l) (.number b l)
 | M7 (m m':Nat) (h:R m m') (a:Nat) (s:Array Nat) (t:Nat):OR R L (.mapIter (some m) a s t) (.mapIter (some m') a s t)
section
variable {R R':Nat->Nat->Prop}{L:FuncId->Bool}
theorem ER.mono(hR:∀ a b,R a b->R' a b){x y:MapEntry}(h:ER R L x y):ER R' L x y:=⟨h.key.mono hR,h.val.mono hR,h.born⟩
theorem EV.mono(hR:∀ a b,R a b->R' a b){x y:Array MapEntry}(h:EV R L x y):EV R' L x y:=⟨h.1,fun i v w hv hw=>(h.2 i v w hv hw).mono hR⟩
theorem OR.mono(hR:∀ a b,R a b->R' a b){x y:Obj}(h:OR R L x y):OR R' L x y:=by
 cases h with
 | cells x y e f h=>exact .cells x y e f (h.mono hR)
 | map x y c h=>exact .map x y c (h.mono hR)
 | sit s p=>exact .sit s p
 | fV a s t=>exact .fV a s t
 | number a b l h=>exact .number a b l (h.mono hR)
 | M7 m m' h a s t=>exact .M7 m m' (hR _ _ h) a s t
end
def Bd:Halt->Prop
 | .stuck _=>True
 | .unsupported (.initOrder _)=>False
 | .unsupported _=>True
 | _=>False
def Mk:Mark->Bool
 | .noRoom|.extern _=>true
 | _=>false
def SR(P:Program)(R:Nat->Nat->Prop)(L:FuncId->Bool){α:Type}(C:α->α->Prop):Sem α->Sem α->Prop
 | .pure a,s=>∃ b,s=.pure b/\C a b
 | .load m a k,s=>∃ b l,s=.load m b l/\m=.plain/\AR R a b/\∀ v u,VR R L v u->SR P R L C (k v) (l u)
 | .store m a v k,s=>∃ b u l,s=.store m b u l/\m=.plain/\AR R a b/\VR R L v u/\SR P R L C k l
 | .new o k,s=>∃ o' l,s=.new o' l/\OR R L o o'/\∀ n n',R n n'->SR P R L C (k n) (l n')
 | .shape r k,s=>∃ r' l,s=.shape r' l/\((R r r'/\∀ x,SR P R L C (k x) (l x))\/(r=r'/\L (2*r+1000000001)=true/\∀ e n,SR P R L C (k (some (e,n))) (l (some (e,n)))))
 | .freeze a n k,s=>∃ b l,s=.freeze b n l/\AR R a b/\SR P R L C k l
 | .frozen a k,s=>∃ b l,s=.frozen b l/\((AR R a b/\∀ x,SR P R L C (k x) (l x))\/(a.block=b.block/\L (2*a.block+1000000001)=true/\SR P R L C (k false) (l false)))
 | .getObj r k,s=>∃ r' l,s=.getObj r' l/\R r r'/\∀ o o',OR R L o o'->SR P R L C (k o) (l o')
 | .setObj r o k,s=>∃ r' o' l,s=.setObj r' o' l/\R r r'/\OR R L o o'/\SR P R L C k l
 | .choose q k,s=>∃ l,s=.choose q l/\∀ n,SR P R L C (k n) (l n)
 | .sys _ _,_=>False
 | .program k,s=>∃ l,s=.program l/\SR P R L C (k P) (l P)
 | .mark m k,s=>∃ l,s=.mark m l/\Mk m=true/\SR P R L C k l
 | .halt (.panic v),s=>∃ u,s=.halt (.panic u)/\VR R L v u
 | .halt h,_=>Bd h
section
variable {P:Program}{R:Nat->Nat->Prop}{L:FuncId->Bool}{α β:Type}{C:α->α->Prop}{D:β->β->Prop}
theorem fu{f g:α->Sem β}(hf:∀ a b,C a b->SR P R L D (f a) (g b)):∀ {s t:Sem α},SR P R L C s t->SR P R L D (s.bind f) (t.bind g)
 | .pure a,t,h=>by obtain⟨b,rfl,hc⟩:=h;exact hf a b hc
 | .load m a k,t,h=>by obtain⟨b,l,rfl,h1,h2,h3⟩:=h;exact⟨b,_,rfl,h1,h2,fun v u hv=>fu hf (h3 v u hv)⟩
 | .store m a v k,t,h=>by obtain⟨b,u,l,rfl,h1,h2,h3,h4⟩:=h;exact⟨b,u,_,rfl,h1,h2,h3,fu (s:=k) hf h4⟩
 | .new o k,t,h=>by obtain⟨o',l,rfl,h1,h2⟩:=h;exact⟨o',_,rfl,h1,fun n n' hn=>fu hf (h2 n n' hn)⟩
 | .shape r k,t,h=>by
  obtain⟨r',l,rfl,h1⟩:=h;refine⟨r',_,rfl,?_⟩;rcases h1 with⟨h1,h2⟩|⟨h0,h1,h2⟩
  .exact .inl ⟨h1,fun x=>fu hf (h2 x)⟩
  .exact .inr ⟨h0,h1,fun e n=>fu hf (h2 e n)⟩
 | .freeze a n k,t,h=>by obtain⟨b,l,rfl,h1,h2⟩:=h;exact⟨b,_,rfl,h1,fu (s:=k) hf h2⟩
 | .frozen a k,t,h=>by
  obtain⟨b,l,rfl,h1⟩:=h;refine⟨b,_,rfl,?_⟩;rcases h1 with⟨h1,h2⟩|⟨h0,h1,h2⟩
  .exact .inl ⟨h1,fun x=>fu hf (h2 x)⟩
  .exact .inr ⟨h0,h1,fu hf h2⟩
 | .getObj r k,t,h=>by obtain⟨r',l,rfl,h1,h2⟩:=h;exact⟨r',_,rfl,h1,fun o o' ho=>fu hf (h2 o o' ho)⟩
 | .setObj r o k,t,h=>by obtain⟨r',o',l,rfl,h1,h2,h3⟩:=h;exact⟨r',o',_,rfl,h1,h2,fu (s:=k) hf h3⟩
 | .choose q k,t,h=>by obtain⟨l,rfl,h1⟩:=h;exact⟨_,rfl,fun n=>fu hf (h1 n)⟩
 | .program k,t,h=>by obtain⟨l,rfl,h1⟩:=h;exact⟨_,rfl,fu (s:=k P) hf h1⟩
 | .mark m k,t,h=>by obtain⟨l,rfl,h0,h1⟩:=h;exact⟨_,rfl,h0,fu (s:=k) hf h1⟩
 | .halt x,t,h=>by
  cases x with
  | panic v=>obtain⟨u,rfl,hv⟩:=h;exact⟨u,rfl,hv⟩
  | _=>exact h
theorem aM{s t:Sem α}{f g:α->Sem β}(h:SR P R L C s t)(hf:∀ a b,C a b->SR P R L D (f a) (g b)):SR P R L D (s >>= f) (t >>= g):=fu hf h
theorem aJ{s t:Sem α}{f g:α->Sem β}(h:SR P R L (·=·) s t)(hf:∀ a,SR P R L D (f a) (g a)):SR P R L D (s >>= f) (t >>= g):=fu (fun a b e=>by subst e;exact hf a) h
theorem QC{C':α->α->Prop}(hC:∀ a b,C a b->C' a b){s t:Sem α}(h:SR P R L C s t):SR P R L C' s t:=by
 have e:∀ s:Sem α,s.bind .pure=s:=by
  intro s
  induction s with
  | pure a=>rfl
  | halt x=>rfl
  | store m a v k ih=>simp only[Sem.bind,ih]
  | freeze a n k ih=>simp only[Sem.bind,ih]
  | setObj r o k ih=>simp only[Sem.bind,ih]
  | mark m k ih=>simp only[Sem.bind,ih]
  | load m a k ih=>simp only[Sem.bind,ih]
  | new o k ih=>simp only[Sem.bind,ih]
  | shape r k ih=>simp only[Sem.bind,ih]
  | frozen a k ih=>simp only[Sem.bind,ih]
  | getObj r k ih=>simp only[Sem.bind,ih]
  | choose q k ih=>simp only[Sem.bind,ih]
  | sys c k ih=>simp only[Sem.bind,ih]
  | program k ih=>simp only[Sem.bind,ih]
 have hp:∀ a b,C a b->SR P R L C' (Sem.pure a) (Sem.pure b):=fun a b hc=>⟨b,rfl,hC a b hc⟩
 have:=fu (P:=P) (R:=R) (L:=L) (C:=C) (D:=C') (f:=Sem.pure) (g:=Sem.pure) hp h
 rwa [e,e] at this
theorem Hw{s t:Sem α}{f g:α->β}(h:SR P R L C s t)(hf:∀ a b,C a b->D (f a) (g b)):SR P R L D (f <$> s) (g <$> t):=by
 show SR P R L D (s.bind fun a=>.pure (f a)) (t.bind fun a=>.pure (g a));have hp:∀ a b,C a b->SR P R L D (Sem.pure (f a)) (Sem.pure (g b)):=fun a b hc=>⟨_,rfl,hf a b hc⟩
 exact fu (f:=fun a=>Sem.pure (f a)) (g:=fun a=>Sem.pure (g a)) hp h
theorem ak{a b:α}(h:C a b):SR P R L C (pure a:Sem α) (pure b):=⟨b,rfl,h⟩
theorem aI(a:α):SR P R L (·=·) (pure a:Sem α) (pure a):=⟨a,rfl,rfl⟩
theorem rz{a b:α}{f g:α->Sem β}(h:SR P R L D (f a) (g b)):SR P R L D ((pure a:Sem α) >>= f) ((pure b:Sem α) >>= g):=h
theorem aj(m:String)(t:Sem α):SR P R L C (stuck m) t:=trivial
theorem aW(u:Unsupported)(t:Sem α)(h:Bd (.unsupported u):=by exact trivial):SR P R L C (unsupported u) t:=h
theorem BX{v u:Value}(h:VR R L v u):SR P R L C (goPanic v:Sem α) (goPanic u):=⟨u,rfl,h⟩
theorem aF{c:Prop}[Decidable c]{a b a' b':Sem α}(ha:SR P R L C a a')(hb:SR P R L C b b'):SR P R L C (if c then a else b) (if c then a' else b'):=by
 by_cases h:c
 .rw[if_pos h,if_pos h];exact ha
 .rw[if_neg h,if_neg h];exact hb
theorem dH{m:String}{f:α->Sem β}{t:Sem β}:SR P R L D ((stuck m:Sem α) >>= f) t:=trivial
theorem dJ{u:Unsupported}{f:α->Sem β}{t:Sem β}(h:Bd (.unsupported u):=by exact trivial):SR P R L D ((unsupported u:Sem α) >>= f) t:=h
end
def still{α:Type}(P:Program)(C:α->Prop):Sem α->Prop
 | .pure a=>C a
 | .choose _ k=>∀ n,still P C (k n)
 | .program k=>still P C (k P)
 | .mark m k=>Mk m=true/\still P C k
 | .halt (.panic v)=>clean v=true
 | .halt h=>Bd h
 | _=>False
section
variable {P:Program}{R:Nat->Nat->Prop}{L:FuncId->Bool}{α β:Type}
end
end Sr
end
theorem aiE{x y:List UInt8}{k:Nat}(h:((x.getD k 0).toNat:Int)≠((y.getD k 0).toNat:Int)):decide (x=y)=false:=by
 simp only[decide_eq_false_iff_not];intro e;subst e;exact h rfl
theorem aiq{x y:List UInt8}{k:Nat}(hk:k<x.length)(hl:y.length=x.length)(ih:x.take k=y.take k)(h:((x.getD k 0).toNat:Int)=((y.getD k 0).toNat:Int)):x.take (k+1)=y.take (k+1):=by
 have h1:k<y.length:=by omega
 have he:x[k]=y[k]:=by
  have:(x.getD k 0)=(y.getD k 0):=VL.1 (by omega);simpa[List.getD,kM hk,kM h1] using this
 rw[Nh hk,Nh h1,ih,he]
theorem ah9(a b:Option Addr)(n m c d:Nat)(x y:List UInt8)(w:World)(ha:Bs w a n c x)(hb:Bs w b m d y):Calls qp0 19 #[.slice a n c,.slice b m d] w fun e w'=>e=.returned (.bool (decide (x=y)))/\Below w.heap.size w w':=by
 have hx:=ha.len;have hy:=hb.len;have c1:=ha.cap;have c2:=hb.cap;have m1:=ha.max;have m2:=hb.max;by_cases hnm:n=m
 .subst hnm;have hn:((n:Int) != n)=false:=by simp
  generalize hr:decide (x=y)=r;have HR:=ah hr;clear hr;have HX:=ah hx;have HY:=ah hy;clear hx hy;go_enter func19,ntmps19;go_wp2
  go_loopw [5] (fun i wr=>∃ k:Nat,k<=n/\i=.int .i64 k/\Hid (x.take k=y.take k)/\Below w.heap.size w wr) (fun i _=>n-(intOf i).toNat)
  case atStart=>exact⟨0,M8 _,rfl,(rfl:x.take 0=y.take 0),Below.refl _ _⟩
  case round =>
   obtain⟨k,hk,rfl,heq,hbel⟩:=hrel;by_cases hlt:k<n
   .obtain⟨b1,o1,rfl,h1⟩:=(Below.bs hbel ha).at k hlt;obtain⟨b2,o2,rfl,h2⟩:=(Below.bs hbel hb).at k hlt;clear ha hb;generalize hg1:((x.getD k 0).toNat:Int)=g1 at h1;generalize hg2:((y.getD k 0).toNat:Int)=g2 at h2;have Zm:=ah hg1;have HG2:=ah hg2;clear hg1 hg2;by_cases hne:g1=g2
    .have hz:(g1 != g2)=false:=Rf hne;have HE:=ah hne;clear hne;go_wp2
     go_quiet (fail)
     go_wp2
     exact⟨⟨k+1,by omega,by go_num,aiq (by have:=HX.out;omega) (by have:=HX.out;have:=HY.out;omega) heq (by rw[Zm.out,HG2.out,HE.out]),Below.drewN hbel _⟩,by simp[intOf];omega⟩
    .have hz:(g1 != g2)=true:=ab6 hne;have HE:=ah hne;clear hne;go_wp2
     go_quiet (fail)
     go_wp2
     go_ret;exact⟨yw (by rw[<-HR.out];exact(aiE (k:=k) (by rw[Zm.out,HG2.out];exact HE.out)).symm),Below.drewN hbel _⟩
   .obtain rfl:k=n:=by omega
    go_wp2
    go_ret;refine⟨yw ?_,hbel⟩;have h1:=HX.out;have h2:=HY.out;have h3:=heq.out;rw[MU (by omega),MU (by omega)] at h3;rw[<-HR.out];simp[h3]
 .have hne:decide (x=y)=false:=by
   simp only[decide_eq_false_iff_not];intro h;subst h;omega
  rw[hne];clear hne;have hn:((n:Int) != m)=true:=by rw[bne_iff_ne];omega
  go_enter func19,ntmps19;go_wp2
  go_ret;exact⟨rfl,Below.refl _ _⟩
section
open Go.Conc
namespace Sr
def G5(P:Program)(t:TypeId):Bool:=match P.info? t with
 | some i=>match i.zero with
  | some v=>clean v
  | none=>true
 | none=>true
inductive LV(R:Nat->Nat->Prop)(L:FuncId->Bool):List Value->List Value->Prop
 | nil:LV R L [] []
 | cons {v w:Value} {x y:List Value} (h:VR R L v w) (k:LV R L x y):LV R L (v::x) (w::y)
section
variable {P:Program}{R:Nat->Nat->Prop}{L:FuncId->Bool}{α β:Type}{C:α->α->Prop}{D:β->β->Prop}
theorem LV.of:∀ {x y:List Value},x.length=y.length->(∀ (i:Nat)(v w:Value),x[i]? = some v->y[i]? = some w->VR R L v w)->LV R L x y
 | [],[],_,_=>.nil
 | v::x,w::y,h,k=>.cons (k 0 v w rfl rfl) (LV.of (by simpa using h) fun i a b ha hb=>k (i+1) a b (by simpa using ha) (by simpa using hb))
theorem LV.len:∀ {x y:List Value},LV R L x y->x.length=y.length
 | _,_,.nil=>rfl
 | _,_,.cons _ k=>by simp[LV.len k]
theorem LV.get:∀ {x y:List Value},LV R L x y->∀ (i:Nat)(v w:Value),x[i]? = some v->y[i]? = some w->VR R L v w
 | _,_,.cons h k,0,a,b,ha,hb=>by simp at ha hb;subst ha hb;exact h
 | _,_,.cons h k,i+1,a,b,ha,hb=>LV.get k i a b (by simpa using ha) (by simpa using hb)
theorem AV.list{x y:Array Value}(h:AV R L x y):LV R L x.toList y.toList:=LV.of (by simpa using h.1) fun i v w hv hw=>h.2 i v w (by simpa using hv) (by simpa using hw)
theorem LV.arr{x y:List Value}(h:LV R L x y):AV R L x.toArray y.toArray:=⟨by simpa using h.len,fun i v w hv hw=>h.get i v w (by simpa using hv) (by simpa using hw)⟩
theorem LV.app{x y a b:List Value}(h:LV R L x y)(k:LV R L a b):LV R L (x++a) (y++b):=by
 induction h with
 | nil=>exact k
 | cons h _ ih=>exact .cons h ih
theorem AR.add{a b:Addr}(h:AR R a b)(n:Nat):AR R (a.add n) (b.add n):=by
 unfold Addr.add;split
 .exact h
 .exact⟨h.1,by simp[h.2.1],rfl⟩
theorem bG{f g:Program->Sem β}(h:SR P R L D (f P) (g P)):SR P R L D (program >>= f) (program >>= g):=⟨_,rfl,h⟩
theorem aP{t:TypeId}{f g:TypeDesc->Sem β}(h:∀ d,P.underlying t=some d->SR P R L D (f d) (g d)):SR P R L D (underlying t >>= f) (underlying t >>= g):=by
 unfold underlying;refine aM (C:=fun a b=>a=b/\P.underlying t=some a) ?_ fun a b ⟨e,hd⟩=>by subst e;exact h a hd
 refine bG ?_
 cases hd:P.underlying t with
 | none=>exact aj _ _
 | some d=>exact ak ⟨rfl,rfl⟩
theorem fJ{t:TypeId}{f g:TypeInfo->Sem β}(h:∀ i,P.info? t=some i->SR P R L D (f i) (g i)):SR P R L D (typeInfo t >>= f) (typeInfo t >>= g):=by
 unfold typeInfo;refine aM (C:=fun a b=>a=b/\P.info? t=some a) ?_ fun a b ⟨e,hd⟩=>by subst e;exact h a hd
 refine bG ?_
 cases hd:P.info? t with
 | none=>exact aj _ _
 | some d=>exact ak ⟨rfl,rfl⟩
theorem bL{t:TypeId}{f g:Nat->Sem β}(h:∀ n,SR P R L D (f n) (g n)):SR P R L D (sizeOf t >>= f) (sizeOf t >>= g):=by
 unfold sizeOf;refine aJ ?_ h;exact fJ fun i _=>aI _
theorem kV{t:TypeId}{f g:Value->Sem β}(hz:G5 P t=true)(h:∀ v,VR R L v v->SR P R L D (f v) (g v)):SR P R L D (zeroValue t >>= f) (zeroValue t >>= g):=by
 unfold zeroValue;refine aM (C:=fun a b=>a=b/\VR R L a a) ?_ fun a b ⟨e,hd⟩=>by subst e;exact h a hd
 refine fJ fun i hi=>?_
 unfold G5 at hz;rw[hi] at hz;dsimp only at hz
 cases hv:i.zero with
 | none=>exact aW _ _
 | some v =>
  rw[hv] at hz;exact ak ⟨rfl,yg hz⟩
theorem gP{q:Question}{f g:Nat->Sem β}(h:∀ n,SR P R L D (f n) (g n)):SR P R L D (choose q >>= f) (choose q >>= g):=⟨_,rfl,h⟩
theorem KM{t:TypeId}{f g:Bool->Sem β}(h:∀ b,SR P R L D (f b) (g b)):SR P R L D (isAgg t >>= f) (isAgg t >>= g):=by
 unfold isAgg;refine aJ ?_ h;refine aP fun d _=>?_
 cases d <;> exact aI _
theorem xK{a b:Addr}(h:AR R a b):SR P R L (VR R L) (load a) (load b):=⟨b,_,rfl,rfl,h,fun v u hv=>⟨u,rfl,hv⟩⟩
theorem Xh{a b:Addr}(h:AR R a b){v u:Value}(hv:VR R L v u):SR P R L (·=·) (store a v) (store b u):=⟨b,u,_,rfl,rfl,h,hv,(),rfl,rfl⟩
theorem ug{o o':Obj}(h:OR R L o o'):SR P R L R (newObj o) (newObj o'):=⟨o',_,rfl,h,fun n n' hn=>⟨n',rfl,hn⟩⟩
theorem fq{r r':Nat}(h:R r r'):SR P R L (OR R L) (getObj r) (getObj r'):=⟨r',_,rfl,h,fun o o' ho=>⟨o',rfl,ho⟩⟩
theorem kE{r r':Nat}(h:R r r'){o o':Obj}(ho:OR R L o o'):SR P R L (·=·) (setObj r o) (setObj r' o'):=⟨r',o',_,rfl,h,ho,(),rfl,rfl⟩
theorem iB{r r':Nat}(h:R r r'):SR P R L (·=·) (shape r) (shape r'):=⟨r',_,rfl,.inl ⟨h,fun x=>⟨x,rfl,rfl⟩⟩⟩
theorem Gs{a b:Addr}(h:AR R a b)(n:Nat):SR P R L (·=·) (freeze a n) (freeze b n):=⟨b,_,rfl,h,(),rfl,rfl⟩
theorem nA{a b:Addr}(h:AR R a b):SR P R L (·=·) (frozen a) (frozen b):=⟨b,_,rfl,.inl ⟨h,fun x=>⟨x,rfl,rfl⟩⟩⟩
theorem za{r:Nat}(h:L (2*r+1000000001)=true):SR P R L (fun x y=>x=y/\∃ p,x=some p) (shape r) (shape r):=⟨r,_,rfl,.inr ⟨rfl,h,fun e n=>⟨_,rfl,rfl,_,rfl⟩⟩⟩
theorem vO{a b:Addr}(h0:a.block=b.block)(h:L (2*a.block+1000000001)=true):SR P R L (fun x y=>x=false/\y=false) (frozen a) (frozen b):=⟨b,_,rfl,.inr ⟨h0,h,false,rfl,rfl,rfl⟩⟩
theorem IW{m:Mark}(hm:Mk m=true):SR P R L (·=·) (mark m) (mark m):=⟨_,rfl,hm,(),rfl,rfl⟩
theorem DT(n:Nat):SR P R L (·=·) (askRoom n) (askRoom n):=by
 unfold askRoom;exact aF (IW rfl) (aI _)
theorem pG{t:TypeId}{c d:Array Value}(h:AV R L c d):SR P R L (AR R) (newRow t c) (newRow t d) :=aM (ug (.cells c d t _ h)) fun n n' hn=>ak ⟨hn,rfl,rfl⟩
theorem Gy{t:TypeId}{v w:Value}(h:VR R L v w):SR P R L (AR R) (newVar t v) (newVar t w):=pG h.cells
theorem pI{a b:Addr}(h:AR R a b):∀ (n i:Nat)(x y:Array Value),AV R L x y->SR P R L (AV R L) (loadCellsFrom a i n x) (loadCellsFrom b i n y)
 | 0,i,x,y,hx=>ak hx
 | n+1,i,x,y,hx=>aM (xK (h.add i)) fun v u hv=>pI h n (i+1) _ _ (hx.push hv)
theorem qw{a b:Addr}(h:AR R a b)(n:Nat):SR P R L (AV R L) (loadCells a n) (loadCells b n):=pI h n 0 _ _ AV.nil
theorem iY{a b:Addr}(h:AR R a b):∀ {x y:List Value},LV R L x y->∀ i,SR P R L (·=·) (storeCells a x i) (storeCells b y i)
 | _,_,.nil,i=>aI _
 | _,_,.cons hv k,i=>aJ (Xh (h.add i) hv) fun _=>iY h k (i+1)
theorem BJ{t:TypeId}{a b:Addr}(h:AR R a b):SR P R L (VR R L) (loadVar t a) (loadVar t b):=by
 unfold loadVar;refine KM fun c=>?_
 refine aF ?_ (xK h);exact bL fun n=>aM (qw h n) fun x y hx=>ak (VR.DC hx)
theorem Kk{t:TypeId}{a b:Addr}(h:AR R a b){v w:Value}(hv:VR R L v w):SR P R L (·=·) (storeVar t a v) (storeVar t b w):=by
 unfold storeVar;refine bL fun n=>?_
 have hs:v.cells.size=w.cells.size:=hv.cells.1;rw[hs];exact aF dH (iY h hv.cells.list 0)
theorem kU{t:TypeId}{x y:Array Value}(h:AV R L x y)(off:Nat):SR P R L (VR R L) (part t x off) (part t y off):=by
 unfold part;refine KM fun c=>?_
 refine aF (bL fun n=>ak (VR.DC (h.extract _ _))) ?_;rcases h.get off with⟨h1,h2⟩|⟨v,w,h1,h2,h3⟩
 .rw[h1];exact aj _ _
 .rw[h1,h2];exact ak h3
theorem qo{v w:Value}(h:VR R L v w):SR P R L (·=·) (asIntOf v) (asIntOf w):=by
 cases h <;> first|exact aI _|exact aW _ _|exact aj _ _
theorem lu{v w:Value}(h:VR R L v w):SR P R L (·=·) (asInt v) (asInt w):=aJ (qo h) fun _=>aI _
theorem zn{v w:Value}(h:VR R L v w):SR P R L (·=·) (asBool v) (asBool w):=by
 cases h <;> first|exact aI _|exact aj _ _
theorem VJ{v w:Value}(h:VR R L v w):SR P R L (AV R L) (asAgg v) (asAgg w):=by
 cases h <;> first|exact aj _ _|skip
 exact ak ⟨by assumption,by assumption⟩
theorem SQ{t:TypeId}:SR P R L (·=·) (elemOf t) (elemOf t):=by
 unfold elemOf;refine aP fun d _=>?_
 cases d <;> first|exact aI _|exact aj _ _
def afY:RuntimeError->Bool
 | .bounds ..|.error _|.plain _|.nilDeref=>true
 | _=>false
theorem jK{e:RuntimeError}(he:afY e=true):SR P R L C (runtimePanic e:Sem α) (runtimePanic e):=by
 unfold runtimePanic;refine bG ?_;dsimp only
 cases e <;> first|(cases he;done)|exact BX (yg rfl)
theorem mY(k:IntKind)(x y:Int)(c:BoundsCode):SR P R L C (boundsPanic k x y c:Sem α) (boundsPanic k x y c):=by
 unfold boundsPanic;dsimp only
 split
 .exact aJ (Hw (C:=(·=·)) (by exact⟨_,rfl,fun n=>⟨n,rfl,rfl⟩⟩) fun a b e=>by subst e;rfl) fun _=>jK rfl
 .exact aJ (aI _) fun _=>jK rfl
theorem lC{v w:Value}(h:VR R L v w):SR P R L (AR R) (Instr.sureAddr v) (Instr.sureAddr w):=by
 cases h <;> first|exact aj _ _|skip
 exact ak (by assumption)
theorem GZ{v w:Value}(h:VR R L v w):SR P R L (AR R) (asAddr v) (asAddr w):=by
 unfold asAddr
 cases h <;> dsimp only <;> first|exact aj _ _|exact jK (e:=.nilDeref) rfl|skip
 exact ak (by assumption)
theorem Sl{t:TypeId}{v w:Value}(h:VR R L v w):SR P R L (VR R L) (Instr.loadAt t v) (Instr.loadAt t w):=aM (lC h) fun a b hab=>BJ hab
theorem PD{t:TypeId}{v w x y:Value}(h:VR R L v w)(hx:VR R L x y):SR P R L (·=·) (Instr.storeAt t v x) (Instr.storeAt t w y):=aM (lC h) fun a b hab=>Kk hab hx
theorem X4{t:TypeId}(hz:G5 P t=true):SR P R L (VR R L) (Instr.alloc t true (.tuple #[])) (Instr.alloc t true (.tuple #[])):=by
 unfold Instr.alloc;exact kV hz fun z h=>aM (Gy h) fun a b hab=>ak (.ptr a b hab)
theorem ad1{t:TypeId}{v w:Value}(h:VR R L v w):SR P R L (VR R L) (Instr.box t v) (Instr.box t w):=aM (Gy h) fun a b hab=>ak (.ptr a b hab)
theorem GJ{r r':Nat}(h:R r r'):SR P R L (·=·) (viewAt r) (viewAt r'):=by
 unfold viewAt;refine aJ (iB h) fun o=>?_
 refine aF (aI _) ?_;refine aM (fq h) fun o o' ho=>?_
 cases ho <;> exact aI _
theorem tY{a b:Addr}(h:AR R a b):SR P R L (·=·) (noView a) (noView b):=by
 unfold noView;refine aJ (GJ h.1) fun o=>?_
 exact aF (aW _ _) (aI _)
theorem kL{a b:Addr}(h:AR R a b):SR P R L (·=·) (byteOf a) (byteOf b):=by
 unfold byteOf;rw[h.2.2]
 cases hb:b.spot with
 | some s=>exact aI _
 | none =>
  refine bG ?_;refine aJ (tY h) fun _=>?_
  refine aJ (iB h.1) fun o=>?_
  cases o with
  | none=>exact aj _ _
  | some x =>
   obtain⟨e,n⟩:=x;rw[h.2.1];dsimp only
   refine aF (aI _) ?_;split
   .exact aI _
   .exact aj _ _
theorem RV{a b:Addr}(h:AR R a b)(c n:Nat):SR P R L (AR R) (partAt a c n) (partAt b c n):=by
 unfold partAt;refine aJ (kL h) fun m=>?_
 have h2:AR R {block:=a.block,off:=a.off+c} {block:=b.block,off:=b.off+c}:=⟨h.1,by simp[h.2.1],rfl⟩;dsimp only
 refine aJ (kL h2) fun m2=>?_
 split
 .exact ak h2
 .exact ak ⟨h2.1,h2.2.1,rfl⟩
theorem E9{a b:Addr}(h:AR R a b)(f:Field):SR P R L (AR R) (fieldPlace a f) (fieldPlace b f):=by
 unfold fieldPlace;exact bL fun n=>aF (RV h _ _) (ak (h.add _))
theorem Nc{s:TypeId}{v w:Value}(h:VR R L v w)(i:Nat):SR P R L (VR R L) (Instr.fieldAt s v i) (Instr.fieldAt s w i):=by
 unfold Instr.fieldAt;refine aP fun d hd=>?_
 cases d with
 | struct fs =>
  dsimp only
  cases fs[i]? with
  | none=>exact aj _ _
  | some f=>exact aM (lC h) fun a b hab=>aM (E9 hab f) fun a b hab=>ak (.ptr a b hab)
 | _=>exact aj _ _
theorem O4{t:TypeId}{v w i j:Value}(h:VR R L v w)(hi:VR R L i j):SR P R L (VR R L) (Instr.indexAt t v i) (Instr.indexAt t w j):=by
 unfold Instr.indexAt;refine aJ (qo hi) fun ki=>?_
 obtain⟨k,i⟩:=ki;dsimp only
 refine aP fun d hd=>?_
 cases d with
 | array len elem =>
  dsimp only
  refine aM (lC h) fun a b hab=>?_
  refine rz ?_;refine aP fun d2 hd2=>?_
  dsimp only
  exact aF (bL fun n=>ak (.ptr _ _ (hab.add _))) (aF (aW _ _) (mY _ _ _ _))
 | slice elem =>
  cases h with
  | iq n c =>
   refine rz ?_;refine aP fun d2 hd2=>?_
   dsimp only
   exact mY _ _ _ _
  | slice a b n c hab =>
   refine rz ?_;refine aP fun d2 hd2=>?_
   dsimp only
   exact aF (bL fun n=>ak (.ptr _ _ (hab.add _))) (aF (aW _ _) (mY _ _ _ _))
  | _=>exact dH
 | _=>exact dH
theorem gN{v w:Value}(h:VR R L v w)(y:Nat)(c:BoundsCode):SR P R L (·=·) (Instr.sliceBound v y c) (Instr.sliceBound w y c):=by
 unfold Instr.sliceBound;refine aJ (qo h) fun ki=>?_
 obtain⟨k,i⟩:=ki;exact aF (aI _) (mY _ _ _ _)
inductive VO(R:Nat->Nat->Prop)(L:FuncId->Bool):Option Value->Option Value->Prop
 | none:VO R L none none
 | some {v w:Value} (h:VR R L v w):VO R L (some v) (some w)
theorem iE{lo lo' hi hi' mx mx':Option Value}(b:Bool)(n m:Nat)(h1:VO R L lo lo')(h2:VO R L hi hi')(h3:VO R L mx mx'):SR P R L (·=·) (Instr.sliceBounds b n m lo hi mx) (Instr.sliceBounds b n m lo' hi' mx'):=by
 unfold Instr.sliceBounds
 cases h3 with
 | none =>
  refine rz ?_
  cases h2 with
  | none =>
   refine rz ?_
   cases h1 with
   | none=>exact aI _
   | some k1=>exact aJ (gN k1 _ _) fun _=>aI _
  | some k2 =>
   refine aJ (gN k2 _ _) fun h=>?_
   cases h1 with
   | none=>exact aI _
   | some k1=>exact aJ (gN k1 _ _) fun _=>aI _
 | some k3 =>
  refine aJ (gN k3 _ _) fun m=>?_
  cases h2 with
  | none=>exact dH
  | some k2 =>
   refine aJ (gN k2 _ _) fun h=>?_
   cases h1 with
   | none=>exact aI _
   | some k1=>exact aJ (gN k1 _ _) fun _=>aI _
theorem Wq{t:TypeId}{v w:Value}{lo lo' hi hi' mx mx':Option Value}(h:VR R L v w)(h1:VO R L lo lo')(h2:VO R L hi hi')(h3:VO R L mx mx'):SR P R L (VR R L) (Instr.slice t v lo hi mx) (Instr.slice t w lo' hi' mx'):=by
 unfold Instr.slice;refine aP fun d hd=>?_
 cases d with
 | string =>
  cases h with
  | string s =>
   dsimp only
   cases h3 with
   | none=>exact aJ (iE _ _ _ h1 h2 .none) fun x=>ak (.string _)
   | some k=>exact dH
  | _=>exact aj _ _
 | slice elem =>
  cases h with
  | iq n c =>
   dsimp only
   refine aJ (iE _ _ _ h1 h2 h3) fun x=>?_
   obtain⟨l,h,m⟩:=x;dsimp only
   refine bL fun s=>ak ?_
   split <;> exact .iq _ _
  | slice a b n c hab =>
   dsimp only
   refine aJ (iE _ _ _ h1 h2 h3) fun x=>?_
   obtain⟨l,h,m⟩:=x;dsimp only
   refine bL fun s=>ak ?_
   split
   .exact .slice _ _ _ _ hab
   .exact .slice _ _ _ _ (hab.add _)
  | _=>exact aj _ _
 | pointer arr =>
  dsimp only
  refine aM (GZ h) fun a b hab=>?_
  refine aP fun d2 hd2=>?_
  cases d2 with
  | array n elem =>
   refine aJ (iE _ _ _ h1 h2 h3) fun x=>?_
   obtain⟨l,h,m⟩:=x;dsimp only
   refine bL fun s=>ak ?_
   split
   .exact .slice _ _ _ _ hab
   .exact .slice _ _ _ _ (hab.add _)
  | _=>exact aj _ _
 | _=>exact aj _ _
theorem Ow{t:TypeId}{v w:Value}{lo lo' hi hi' mx mx':Option Value}(h:VR R L v w)(h1:VO R L lo lo')(h2:VO R L hi hi')(h3:VO R L mx mx'):SR P R L (VR R L) (Instr.sliceAt t v lo hi mx) (Instr.sliceAt t w lo' hi' mx'):=by
 unfold Instr.sliceAt;refine aP fun d hd=>?_
 cases d with
 | array n elem =>
  dsimp only
  refine aM (lC h) fun a b hab=>?_
  refine aJ (iE _ _ _ h1 h2 h3) fun x=>?_
  obtain⟨l,h,m⟩:=x;dsimp only
  refine bL fun s=>ak ?_
  split
  .exact .slice _ _ _ _ hab
  .exact .slice _ _ _ _ (hab.add _)
 | _=>exact Wq h h1 h2 h3
theorem N7{t:TypeId}{v w:Value}(h:VR R L v w):SR P R L (VR R L) (Instr.arrayAt t v) (Instr.arrayAt t w):=by
 unfold Instr.arrayAt;refine aP fun d hd=>?_
 cases d with
 | array n elem =>
  cases h with
  | iq n c=>exact aF (jK rfl) (ak .gV)
  | slice a b n c hab=>exact aF (jK rfl) (ak (.ptr _ _ hab))
  | _=>exact aj _ _
 | _=>exact aj _ _
theorem VY{t:TypeId}{v w:Value}(h:VR R L v w)(i:Nat):SR P R L (VR R L) (Instr.field t v i) (Instr.field t w i):=by
 unfold Instr.field;refine aP fun d hd=>?_
 cases d with
 | struct fs =>
  dsimp only
  cases fs[i]? with
  | none=>exact aj _ _
  | some f=>exact aM (VJ h) fun x y hx=>kU hx _
 | _=>exact aj _ _
theorem Wt{t:TypeId}{v w i j:Value}(h:VR R L v w)(hi:VR R L i j):SR P R L (VR R L) (Instr.index t v i) (Instr.index t w j):=by
 unfold Instr.index;refine aJ (qo hi) fun ki=>?_
 obtain⟨k,i⟩:=ki;dsimp only
 refine aP fun d hd=>?_
 cases d with
 | array len elem =>
  cases h with
  | agg x y hx hv=>exact aF (bL fun n=>kU ⟨hx,hv⟩ _) (mY _ _ _ _)
  | _=>exact aj _ _
 | string =>
  cases h with
  | string s =>
   dsimp only
   generalize (if 0<=i then s[i.toNat]? else none)=o
   cases o with
   | none=>exact mY _ _ _ _
   | some b=>exact ak (.int _ _)
  | _=>exact aj _ _
 | _=>exact aj _ _
theorem NH{v w:Value}(h:VR R L v w)(i:Nat):SR P R L (VR R L) (Instr.extract v i) (Instr.extract w i):=by
 unfold Instr.extract
 cases h with
 | tuple x y hx hv =>
  dsimp only
  rcases AV.get (⟨hx,hv⟩:AV R L x y) i with⟨h1,h2⟩|⟨a,b,h1,h2,h3⟩
  .rw[h1];exact aj _ _
  .rw[h1,h2];exact ak h3
 | _=>exact aj _ _
theorem Ag(o:BinOp)(k:IntKind)(x y:Int):SR P R L (VR R L) (Op.intArith o k x y) (Op.intArith o k x y):=by
 unfold Op.intArith
 cases o <;> first|exact ak (.int _ _)|exact aj _ _
theorem Co(o:BinOp)(k:IntKind)(x y:Int):SR P R L (VR R L) (Op.intBits o k x y) (Op.intBits o k x y):=by
 unfold Op.intBits
 cases o <;> first|exact ak (.int _ _)|exact aj _ _
theorem RO(o:BinOp)(x y:Int):SR P R L (VR R L) (Op.intCmp o x y) (Op.intCmp o x y):=by
 unfold Op.intCmp
 cases o <;> first|exact ak (.bool _)|exact aj _ _
theorem TI(o:BinOp)(k:IntKind)(x y:Int):SR P R L (VR R L) (Op.intDiv o k x y) (Op.intDiv o k x y):=by
 unfold Op.intDiv;refine aF (jK rfl) ?_
 cases o <;> first|exact ak (.int _ _)|exact aj _ _
theorem JU(o:BinOp)(k:IntKind)(x:Int)(k2:IntKind)(y:Int):SR P R L (VR R L) (Op.shift o k x k2 y) (Op.shift o k x k2 y):=by
 unfold Op.shift;refine aF (jK rfl) ?_
 cases o <;> first|exact ak (.int _ _)|exact aj _ _
theorem sP(o:BinOp)(x y:ByteArray):SR P R L (VR R L) (Op.stringOp o x y) (Op.stringOp o x y):=by
 unfold Op.stringOp
 cases o <;> first|exact ak (.bool _)|exact aj _ _|exact aF (aW _ _) (ak (.string _))
theorem Wz(o:UnOp){v w:Value}(h:VR R L v w):SR P R L (VR R L) (Op.unary o v) (Op.unary o w):=by
 unfold Op.unary
 cases o <;> cases h <;> dsimp only <;> first|exact Ag _ _ _ _|exact Co _ _ _ _|exact ak (.bool _)|exact aW _ _|exact aj _ _
end
end Sr
end
section
open Go.Conc
namespace Sr
structure PB(R:Nat->Nat->Prop):Prop where
 inj:∀ a a' b,R a b->R a' b->a=a'
 fn:∀ a b b',R a b->R a b'->b=b'
structure GB(P:Program)(R:Nat->Nat->Prop):Prop extends PB R where
 g1:∀ g,g<P.globals.size->∀ b,R g b->b=g
 g2:∀ g,g<P.globals.size->∀ a,R a g->a=g
 gl:∀ g,g<P.globals.size->R g g
section
variable {P:Program}{R:Nat->Nat->Prop}{L:FuncId->Bool}{α β:Type}{C:α->α->Prop}{D:β->β->Prop}
theorem PB.beq(hR:PB R){a b x y:Nat}(h:R a b)(k:R x y):(a==x)=(b==y):=by
 rw[qbG];simp only[beq_iff_eq];exact⟨fun e=>hR.fn a b y h (e ▸ k),fun e=>hR.inj a x y (e ▸ h) k⟩
theorem PB.addr(hR:PB R){a b x y:Addr}(h:AR R a b)(k:AR R x y):(a==x)=(b==y):=by
 rw[qbG];simp only[beq_iff_eq];obtain⟨a1,a2,a3⟩:=a;obtain⟨b1,b2,b3⟩:=b;obtain⟨x1,x2,x3⟩:=x;obtain⟨y1,y2,y3⟩:=y;obtain⟨h1,h2,h3⟩:=h;obtain⟨k1,k2,k3⟩:=k;simp only at h1 h2 h3 k1 k2 k3;subst h2 h3 k2 k3;simp only[Addr.mk.injEq];exact⟨fun⟨e1,e2,e3⟩=>⟨hR.fn _ _ _ h1 (e1 ▸ k1),e2,e3⟩,fun⟨e1,e2,e3⟩=>⟨hR.inj _ _ _ (e1 ▸ h1) k1,e2,e3⟩⟩
theorem Au{r r':Nat}(h:R r r'):SR P R L (fun x y=>(x=none/\y=none)\/∃ a b l,x=some (a,l)/\y=some (b,l)/\AR R a b) (numberAt r) (numberAt r'):=by
 unfold numberAt;refine aJ (iB h) fun o=>?_
 refine aF (ak (.inl ⟨rfl,rfl⟩)) ?_;refine aM (fq h) fun o o' ho=>?_
 cases ho with
 | number a b l hab=>exact ak (.inr ⟨a,b,l,rfl,rfl,hab⟩)
 | _=>exact ak (.inl ⟨rfl,rfl⟩)
theorem aV{a b:Addr}(h:AR R a b):SR P R L (fun x y=>AR R x.1 y.1/\x.2=y.2) (behindNumber a) (behindNumber b):=by
 unfold behindNumber;refine aM (Au h.1) fun x y hxy=>?_
 rcases hxy with⟨rfl,rfl⟩|⟨c,d,l,rfl,rfl,k⟩
 .exact ak ⟨h,rfl⟩
 .exact ak ⟨k,rfl⟩
theorem KH{a b:Addr}(h:AR R a b)(l:Bool):SR P R L (VR R L) (asNumber a l) (asNumber b l) :=aM (ug (.number a b l h)) fun n n' hn=>ak (.ptr _ _ ⟨hn,rfl,rfl⟩)
theorem GB.below(hR:GB P R){a b:Nat}(h:R a b):(a<P.globals.size)=(b<P.globals.size):=by
 rw[eq_iff_iff];exact⟨fun ha=>by rw[hR.g1 _ ha _ h];exact ha,fun hb=>by rw[hR.g2 _ hb _ h];exact hb⟩
theorem yh(hR:GB P R){a b x y:Addr}(h:AR R a b)(k:AR R x y):SR P R L (·=·) (Op.twoPlaces a x) (Op.twoPlaces b y):=by
 unfold Op.twoPlaces;refine bG ?_;have e1:(a.block != x.block)=(b.block != y.block):=by
  show(!(a.block==x.block))=!(b.block==y.block);rw[hR.toPB.beq h.1 k.1]
 have e2:decide (a.block>=P.globals.size)=decide (b.block>=P.globals.size):=by
  have:=hR.below h.1;by_cases hb:b.block<P.globals.size
  .have ha:a.block<P.globals.size:=by rw[this];exact hb
   rw[decide_eq_false (by omega),decide_eq_false (by omega)]
  .have ha:¬ a.block<P.globals.size:=by rw[this];exact hb
   rw[decide_eq_true (by omega),decide_eq_true (by omega)]
 rw[e1,e2];refine aF dJ ?_;exact aJ (kL h) fun _=>aJ (kL k) fun _=>aI _
theorem qz{a b:Addr}(h:AR R a b):SR P R L (·=·) (stringish a) (stringish b):=by
 unfold stringish;refine aJ (nA h) fun c=>?_
 refine aF (aI _) ?_;refine aJ (iB h.1) fun o=>?_
 cases o with
 | none=>exact aI _
 | some x=>exact nA ⟨h.1,rfl,rfl⟩
theorem Lu{a b x y:Addr}(h:AR R a b)(k:AR R x y):SR P R L (·=·) (mayBeOne a x) (mayBeOne b y):=by
 unfold mayBeOne;refine aJ (qz h) fun sa=>?_
 refine aJ (qz k) fun sb=>?_
 dsimp only
 have hn:∀ {a b:Addr},AR R a b->SR P R L (·=·) (do pure ((<- shape a.block) matches some (_,0)):Sem Bool) (do pure ((<- shape b.block) matches some (_,0))):=fun h=>aJ (iB h.1) fun o=>aI _
 exact aJ (hn h) fun x=>aJ (hn k) fun y=>aI _
theorem Ab(hR:PB R){a b x y:Addr}(h:AR R a b)(k:AR R x y):SR P R L (·=·) (sameAddr a x) (sameAddr b y):=by
 unfold sameAddr;rw[hR.beq h.1 k.1,hR.addr h k];refine aF (aI _) ?_;refine aJ (nA h) fun f1=>?_
 refine aJ (nA k) fun f2=>?_
 refine aF dJ ?_;refine aJ (tY h) fun _=>aJ (tY k) fun _=>?_
 refine aJ (Lu h k) fun m=>?_
 exact aF (gP fun _=>aI _) (aI _)
def NA(R:Nat->Nat->Prop)(L:FuncId->Bool)(a b:Addr):Prop:=AR R a b\/(a=b/\L (2*a.block+1000000001)=true)
def OqD(P:Program)(R:Nat->Nat->Prop)(L:FuncId->Bool):Prop:=(∀ a b,R a b->L (2*a+1000000001)=false/\L (2*b+1000000001)=false)/\∀ t:Nat,L (2*t+1000000000)=true->∃ e,P.underlying t=some (.pointer e)
theorem OZ{a:Addr}(h:L (2*a.block+1000000001)=true):SR P R L (·=·) (noView a) (noView a):=by
 unfold noView viewAt;refine aM (C:=fun x y=>x=none/\y=none) ?_ fun x y hxy=>?_
 .refine aM (za h) fun x y hxy=>?_
  obtain⟨rfl,p,rfl⟩:=hxy;exact ak ⟨rfl,rfl⟩
 .obtain⟨rfl,rfl⟩:=hxy;exact aI _
theorem Dr{a b:Addr}(h:NA R L a b):SR P R L (·=·) (noView a) (noView b):=by
 rcases h with h|⟨rfl,h⟩
 .exact tY h
 .exact OZ h
theorem Ce{a b:Addr}(h:NA R L a b):SR P R L (·=·) (frozen a) (frozen b):=by
 rcases h with h|⟨rfl,h⟩
 .exact nA h
 .exact QC (fun x y h=>h.1.trans h.2.symm) (vO rfl h)
theorem u6{a b:Addr}(h:NA R L a b):SR P R L (·=·) (stringish a) (stringish b):=by
 rcases h with h|⟨rfl,h⟩
 .exact qz h
 .unfold stringish;refine aM (vO rfl h) fun x y hxy=>?_
  obtain⟨rfl,rfl⟩:=hxy;refine aM (za h) fun x y hxy=>?_
  obtain⟨rfl,p,rfl⟩:=hxy;exact QC (fun x y h=>h.1.trans h.2.symm) (vO rfl h)
theorem Ih{a b x y:Addr}(h:NA R L a b)(k:NA R L x y):SR P R L (·=·) (mayBeOne a x) (mayBeOne b y):=by
 unfold mayBeOne;refine aJ (u6 h) fun sa=>?_
 refine aJ (u6 k) fun sb=>?_
 dsimp only
 have hn:∀ {a b:Addr},NA R L a b->SR P R L (·=·) (do pure ((<- shape a.block) matches some (_,0)):Sem Bool) (do pure ((<- shape b.block) matches some (_,0))):=fun h=>by
  rcases h with h|⟨rfl,h⟩
  .exact aJ (iB h.1) fun o=>aI _
  .refine aM (za h) fun x y hxy=>?_
   obtain⟨rfl,p,rfl⟩:=hxy;exact aI _
 exact aJ (hn h) fun x=>aJ (hn k) fun y=>aI _
theorem NA.beq(hR:PB R)(hO:∀ a b,R a b->L (2*a+1000000001)=false/\L (2*b+1000000001)=false){a b x y:Addr}(h:NA R L a b)(k:NA R L x y):(a.block==x.block)=(b.block==y.block)/\(a==x)=(b==y):=by
 rcases h with h|⟨rfl,h⟩
 .rcases k with k|⟨rfl,k⟩
  .exact⟨hR.beq h.1 k.1,hR.addr h k⟩
  .have h1:=hO _ _ h.1;have n1:a.block≠x.block:=fun e=>by rw[e,k] at h1;exact absurd h1.1 (by simp)
   have n2:b.block≠x.block:=fun e=>by rw[e,k] at h1;exact absurd h1.2 (by simp)
   have m1:a≠x:=fun e=>n1 (by rw[e])
   have m2:b≠x:=fun e=>n2 (by rw[e])
   exact⟨(beq_eq_false_iff_ne.2 n1).trans (beq_eq_false_iff_ne.2 n2).symm,(beq_eq_false_iff_ne.2 m1).trans (beq_eq_false_iff_ne.2 m2).symm⟩
 .rcases k with k|⟨rfl,k⟩
  .have h1:=hO _ _ k.1;have n1:a.block≠x.block:=fun e=>by rw[<-e,h] at h1;exact absurd h1.1 (by simp)
   have n2:a.block≠y.block:=fun e=>by rw[<-e,h] at h1;exact absurd h1.2 (by simp)
   have m1:a≠x:=fun e=>n1 (by rw[e])
   have m2:a≠y:=fun e=>n2 (by rw[e])
   exact⟨(beq_eq_false_iff_ne.2 n1).trans (beq_eq_false_iff_ne.2 n2).symm,(beq_eq_false_iff_ne.2 m1).trans (beq_eq_false_iff_ne.2 m2).symm⟩
  .exact⟨rfl,rfl⟩
theorem II(hR:PB R)(hO:OqD P R L){a b x y:Addr}(h:NA R L a b)(k:NA R L x y):SR P R L (·=·) (sameAddr a x) (sameAddr b y):=by
 unfold sameAddr;obtain⟨e1,e2⟩:=h.beq hR hO.1 k;rw[e1,e2];refine aF (aI _) ?_;refine aJ (Ce h) fun f1=>?_
 refine aJ (Ce k) fun f2=>?_
 refine aF dJ ?_;refine aJ (Dr h) fun _=>aJ (Dr k) fun _=>?_
 refine aJ (Ih h k) fun m=>?_
 exact aF (gP fun _=>aI _) (aI _)
theorem zi{γ δ:Type}{f g:γ->δ->Sem (ForInStep δ)}(h:∀ a s,SR P R L (·=·) (f a s) (g a s)):∀ (l:List γ)(b:δ),SR P R L (·=·) (forIn l b f:Sem δ) (forIn l b g)
 | [],b=>by rw[qbL,qbL];exact aI _
 | a::l,b=>by
  rw[qbn,qbn];refine aJ (h a b) fun s=>?_
  cases s with
  | done b=>exact aI _
  | yield b=>exact zi h l b
theorem TM{γ δ:Type}{f g:γ->δ->Sem (ForInStep δ)}(h:∀ a s,SR P R L (·=·) (f a s) (g a s))(l:Array γ)(b:δ):SR P R L (·=·) (forIn l b f:Sem δ) (forIn l b g):=by
 rw[<-qbi,<-qbi];exact zi h _ _
theorem BH{γ δ:Type}{f g:γ->δ->Sem (ForInStep δ)}:∀ (l:List γ)(h:∀ a∈l,∀ s,SR P R L (·=·) (f a s) (g a s))(b:δ),SR P R L (·=·) (forIn l b f:Sem δ) (forIn l b g)
 | [],h,b=>by rw[qbL,qbL];exact aI _
 | a::l,h,b=>by
  rw[qbn,qbn];refine aJ (h a (by simp) b) fun s=>?_
  cases s with
  | done b=>exact aI _
  | yield b=>exact BH l (fun x hx=>h x (by simp[hx])) b
theorem Po{γ δ:Type}{f g:γ->δ->Sem (ForInStep δ)}(l:Array γ)(h:∀ a∈l.toList,∀ s,SR P R L (·=·) (f a s) (g a s))(b:δ):SR P R L (·=·) (forIn l b f:Sem δ) (forIn l b g):=by
 rw[<-qbi,<-qbi];exact BH _ h _
theorem Gd{δ:Type}{f g:Nat->δ->Sem (ForInStep δ)}(h:∀ a s,SR P R L (·=·) (f a s) (g a s))(n:Nat)(b:δ):SR P R L (·=·) (forIn [0:n] b f:Sem δ) (forIn [0:n] b g):=by
 rw[qbw,qbw];exact zi h _ _
theorem ql{t:TypeId}:SR P R L (·=·) (typeStr t) (typeStr t):=by
 unfold typeStr;exact fJ fun i _=>aF (aW _ _) (aI _)
def I4(P:Program):Nat->TypeId->Bool
 | 0,_=>false
 | k+1,t=>match P.underlying t with
  | some (.interface _)=>false
  | some (.struct fs)=>fs.toList.all fun f=>I4 P k f.type
  | some (.array _ e)=>I4 P k e
  | _=>true
def EqC(P:Program)(t:TypeId)(x y:Value):Prop:=(∃ k,I4 P k t=true)\/x=.nilIface\/y=.nilIface
def EqR(P:Program)(R:Nat->Nat->Prop)(L:FuncId->Bool)(t:TypeId)(x y:Value):Prop:=EqC P t x y\/OqD P R L
def NV(R:Nat->Nat->Prop)(L:FuncId->Bool)(v w:Value):Prop:=VR R L v w\/∃ a,v=.pointer (some a)/\w=.pointer (some a)/\L (2*a.block+1000000001)=true
theorem zh(hR:GB P R)(hO:OqD P R L)(d:Nat){t:TypeId}(ht:L (2*t+1000000000)=true){x x' y y':Value}(hx:NV R L x x')(hy:NV R L y y'):SR P R L (·=·) (Op.equalIn d t x y) (Op.equalIn d t x' y'):=by
 cases d with
 | zero=>exact aW _ _
 | succ d =>
  unfold Op.equalIn;refine aP fun ds hds=>?_
  obtain⟨e,he⟩:=hO.2 t ht;rw[hds] at he
  cases he
  have two:∀ {a b p q:Addr},NA R L a b->NA R L p q->SR P R L (·=·) (do if (<- sizeOf e)≠0 then sameAddr a p else if a==p then pure true else do pure ((<- choose .zeroSizeEq)=1):Sem Bool) (do if (<- sizeOf e)≠0 then sameAddr b q else if b==q then pure true else do pure ((<- choose .zeroSizeEq)=1)):=fun h k=>by
   refine bL fun n=>?_
   rw[(h.beq hR.toPB hO.1 k).2];exact aF (II hR.toPB hO h k) (aF (aI _) (gP fun _=>aI _))
  rcases hx with hx|⟨a,rfl,rfl,ha⟩
  .cases hx with
   | gV =>
    rcases hy with hy|⟨b,rfl,rfl,hb⟩
    .cases hy with
     | gV=>exact aI _
     | ptr a b h=>exact aI _
     | _=>exact aj _ _
    .exact aI _
   | ptr a a' h =>
    rcases hy with hy|⟨b,rfl,rfl,hb⟩
    .cases hy with
     | gV=>exact aI _
     | ptr b b' h'=>exact two (.inl h) (.inl h')
     | _=>exact aj _ _
    .exact two (.inl h) (.inr ⟨rfl,hb⟩)
   | _=>exact aj _ _
  .rcases hy with hy|⟨b,rfl,rfl,hb⟩
   .cases hy with
    | gV=>exact aI _
    | ptr b b' h'=>exact two (.inr ⟨rfl,ha⟩) (.inl h')
    | _=>exact aj _ _
   .exact two (.inr ⟨rfl,ha⟩) (.inr ⟨rfl,hb⟩)
theorem qK(hR:GB P R):∀ (d:Nat)(t:TypeId){x y x' y':Value},EqR P R L t x y->VR R L x x'->VR R L y y'->SR P R L (·=·) (Op.equalIn d t x y) (Op.equalIn d t x' y')
 | 0,t,x,y,x',y',_,_,_=>aW _ _
 | d+1,t,x,y,x',y',hc,hx,hy=>by
  have ih:=@qK hR d;unfold Op.equalIn;refine aP fun ds hds=>?_
  cases ds with
  | bool =>
   cases hx with
   | bool a=>cases hy with
    | bool b=>exact aI _
    | _=>exact aj _ _
   | _=>exact aj _ _
  | int k =>
   cases hx with
   | int k1 a=>cases hy with
    | int k2 b=>exact aF (aI _) (aj _ _)
    | ptr b b' h=>cases a with
     | ofNat n=>cases n with
      | zero=>exact aI _
      | succ n=>exact aW _ _
     | negSucc n=>exact aW _ _
    | gV=>cases a with
     | ofNat n=>cases n with
      | zero=>exact aW _ _
      | succ n=>exact aW _ _
     | negSucc n=>exact aW _ _
    | _=>exact aj _ _
   | ptr a a' h=>cases hy with
    | int k2 b=>cases b with
     | ofNat n=>cases n with
      | zero=>exact aI _
      | succ n=>exact aW _ _
     | negSucc n=>exact aW _ _
    | ptr b b' h' =>
     refine aM (aV h) fun p q hpq=>?_
     refine aM (aV h') fun p' q' adj=>?_
     dsimp only
     refine bG ?_;rw[hR.toPB.beq hpq.1.1 adj.1.1,hR.toPB.addr hpq.1 adj.1];have e:=hR.below hpq.1.1;have e2:decide (p.1.block<P.globals.size)=decide (q.1.block<P.globals.size):=by
      rw[decide_eq_decide,e]
     rw[e2];refine aF ?_ ?_
     .exact aJ (kL hpq.1) fun _=>aJ (kL adj.1) fun _=>aI _
     .refine fJ fun i hi=>?_
      split
      .exact aF (aI _) (aW _ _)
      .exact aW _ _
    | _=>exact aW _ _
   | gV=>exact aW _ _
   | _=>cases hy <;> first|exact aj _ _|exact aW _ _
  | float k=>cases hx <;> cases hy <;> exact aj _ _
  | complex k=>cases hx <;> cases hy <;> exact aj _ _
  | string =>
   cases hx with
   | string a=>cases hy with
    | string b=>exact aI _
    | _=>exact aj _ _
   | _=>exact aj _ _
  | pointer elem =>
   cases hx with
   | gV=>cases hy with
    | gV=>exact aI _
    | ptr a b h=>exact aI _
    | _=>exact aj _ _
   | ptr a a' h=>cases hy with
    | gV=>exact aI _
    | ptr b b' h' =>
     dsimp only
     refine bL fun n=>?_
     rw[hR.toPB.addr h h'];exact aF (Ab hR.toPB h h') (aF (aI _) (gP fun _=>aI _))
    | _=>exact aj _ _
   | _=>exact aj _ _
  | unsafePointer =>
   cases hx with
   | gV=>cases hy with
    | gV=>exact aI _
    | ptr a b h=>exact aI _
    | _=>exact aj _ _
   | ptr a a' h=>cases hy with
    | gV=>exact aI _
    | ptr b b' h'=>exact Ab hR.toPB h h'
    | _=>exact aj _ _
   | _=>exact aj _ _
  | chan dir e =>
   cases hx with
   | chan a=>cases hy with
    | chan b=>exact aI _
    | _=>exact aj _ _
   | _=>exact aj _ _
  | interface ms =>
   have no:∀ {t1 t2:TypeId}{v1 v2:Value},EqR P R L t (.iface t1 v1) (.iface t2 v2)->OqD P R L:=by
    rintro t1 t2 v1 v2 ((⟨k,hk⟩|h|h)|h)
    .cases k with
     | zero=>cases hk
     | succ k=>unfold I4 at hk;rw[hds] at hk;cases hk
    .cases h
    .cases h
    .exact h
   cases hx with
   | nilIface=>cases hy with
    | nilIface=>exact aI _
    | iface t v w h=>exact aI _
    | tJ t a ht ha=>exact aI _
    | _=>exact aj _ _
   | iface t1 v w h=>cases hy with
    | nilIface=>exact aI _
    | iface t2 v2 w2 h2 =>
     dsimp only
     refine aF (aI _) ?_;refine fJ fun i hi=>?_
     refine aF ?_ (ih _ (.inr (no hc)) h h2);refine bG ?_;refine bG ?_;refine aF dJ ?_;exact aJ ql fun _=>jK rfl
    | tJ t2 a ht ha =>
     dsimp only
     by_cases e:t1=t2
     .subst e;refine aF (aI _) ?_;refine fJ fun i hi=>?_
      refine aF ?_ (zh hR (no hc) _ ht (.inl h) (.inr ⟨a,rfl,rfl,ha⟩));refine bG ?_;refine bG ?_;refine aF dJ ?_;exact aJ ql fun _=>jK rfl
     .rw[if_pos e,if_pos e];exact aI _
    | _=>exact aj _ _
   | tJ t1 a1 ht1 ha1=>cases hy with
    | nilIface=>exact aI _
    | iface t2 v2 w2 h2 =>
     dsimp only
     refine aF (aI _) ?_;refine fJ fun i hi=>?_
     refine aF ?_ (zh hR (no hc) _ ht1 (.inr ⟨a1,rfl,rfl,ha1⟩) (.inl h2));refine bG ?_;refine bG ?_;refine aF dJ ?_;exact aJ ql fun _=>jK rfl
    | tJ t2 a ht ha =>
     dsimp only
     refine aF (aI _) ?_;refine fJ fun i hi=>?_
     refine aF ?_ (zh hR (no hc) _ ht1 (.inr ⟨a1,rfl,rfl,ha1⟩) (.inr ⟨a,rfl,rfl,ha⟩));refine bG ?_;refine bG ?_;refine aF dJ ?_;exact aJ ql fun _=>jK rfl
    | _=>exact aj _ _
   | _=>exact aj _ _
  | struct fs =>
   cases hx with
   | agg a a' h1 h2=>cases hy with
    | agg b b' h3 h4 =>
     dsimp only
     refine bG ?_;refine aF dJ ?_;have ha:AV R L a a':=⟨h1,h2⟩;have hb:AV R L b b':=⟨h3,h4⟩;have hf:∀ f∈fs.toList,(∃ k,I4 P k f.type=true)\/OqD P R L:=by
      rcases hc with(⟨k,hk⟩|h|h)|h
      .cases k with
       | zero=>cases hk
       | succ k =>
        unfold I4 at hk;rw[hds] at hk;exact fun f hf=>.inl ⟨k,Ej.1 hk f hf⟩
      .cases h
      .cases h
      .exact fun _ _=>.inr h
     refine aJ (Po _ (fun f hfm s=>?_) _) fun r=>?_
     .exact aF (aM (kU ha _) fun x x' hx=>aM (kU hb _) fun y y' hy=>aJ (ih _ ((hf f hfm).imp .inl id) hx hy) fun c=>aF (aI _) (aI _)) (aI _)
     .obtain⟨r,u⟩:=r
      cases r <;> exact aI _
    | _=>exact aj _ _
   | _=>exact aj _ _
  | array n e =>
   cases hx with
   | agg a a' h1 h2=>cases hy with
    | agg b b' h3 h4 =>
     dsimp only
     refine bL fun n=>?_
     have ha:AV R L a a':=⟨h1,h2⟩;have hb:AV R L b b':=⟨h3,h4⟩;have hf:(∃ k,I4 P k e=true)\/OqD P R L:=by
      rcases hc with(⟨k,hk⟩|h|h)|h
      .cases k with
       | zero=>cases hk
       | succ k =>
        unfold I4 at hk;rw[hds] at hk;exact .inl ⟨k,hk⟩
      .cases h
      .cases h
      .exact .inr h
     refine aJ (Gd (fun f s=>?_) _ _) fun r=>?_
     .exact aM (kU ha _) fun x x' hx=>aM (kU hb _) fun y y' hy=>aJ (ih _ (hf.imp .inl id) hx hy) fun c=>aF (aI _) (aI _)
     .obtain⟨r,u⟩:=r
      cases r <;> exact aI _
    | _=>exact aj _ _
   | _=>exact aj _ _
  | slice e =>
   cases hx with
   | iq n c=>cases hy with
    | iq m k=>exact aI _
    | slice a b m k h=>exact aI _
    | _=>exact aj _ _
   | slice a b n c h=>cases hy with
    | iq m k=>exact aI _
    | _=>exact aj _ _
   | _=>exact aj _ _
  | map k e =>
   cases hx with
   | fV=>cases hy with
    | fV=>exact aI _
    | map r s h=>exact aI _
    | _=>exact aj _ _
   | map r s h=>cases hy with
    | fV=>exact aI _
    | _=>exact aj _ _
   | _=>exact aj _ _
  | func a b c =>
   cases hx with
   | nilFunc=>cases hy with
    | nilFunc=>exact aI _
    | func=>exact aI _
    | _=>exact aj _ _
   | func=>cases hy with
    | nilFunc=>exact aI _
    | _=>exact aj _ _
   | _=>exact aj _ _
  | _=>exact aj _ _
theorem qJ:∀ (d:Nat)(t:TypeId){x y x' y':Value},VR R L x x'->VR R L y y'->SR P R L (·=·) (Op.eqGuardIn d t x y) (Op.eqGuardIn d t x' y')
 | 0,t,x,y,x',y',_,_=>aW _ _
 | d+1,t,x,y,x',y',hx,hy=>by
  have ih:=@qJ d;unfold Op.eqGuardIn;refine aP fun ds hds=>?_
  cases ds with
  | interface ms =>
   cases hx with
   | nilIface=>cases hy <;> exact aI _
   | _=>cases hy <;> exact aI _
  | struct fs =>
   cases hx with
   | agg a a' h1 h2=>cases hy with
    | agg b b' h3 h4 =>
     dsimp only
     have ha:AV R L a a':=⟨h1,h2⟩;have hb:AV R L b b':=⟨h3,h4⟩;refine aJ (TM (fun f s=>?_) _ _) fun r=>?_
     .exact aF (aM (kU ha _) fun x x' hx=>aM (kU hb _) fun y y' hy=>aJ (ih _ hx hy) fun c=>aF (aI _) (aI _)) (aI _)
     .obtain⟨r,u⟩:=r
      cases r <;> exact aI _
    | _=>exact aI _
   | _=>cases hy <;> exact aI _
  | array n e =>
   cases hx with
   | agg a a' h1 h2=>cases hy with
    | agg b b' h3 h4 =>
     dsimp only
     have ha:AV R L a a':=⟨h1,h2⟩;have hb:AV R L b b':=⟨h3,h4⟩;refine bL fun n=>?_
     refine aJ (Gd (fun f s=>?_) _ _) fun r=>?_
     .exact aM (kU ha _) fun x x' hx=>aM (kU hb _) fun y y' hy=>aJ (ih _ hx hy) fun c=>aF (aI _) (aI _)
     .obtain⟨r,u⟩:=r
      cases r <;> exact aI _
    | _=>exact aI _
   | _=>cases hy <;> exact aI _
  | _=>exact aI _
theorem PW(o:BinOp)(t:TypeId)(x y:Operand){a b a' b':Value}(ha:VR R L a a')(hb:VR R L b b'):SR P R L (·=·) (eqGuard o t x y a b) (eqGuard o t x y a' b'):=by
 unfold eqGuard;refine aF (aI _) ?_;have hr:SR P R L (·=·) (do if <-Op.eqGuardIn Op.maxDepth t a b then unsupported (.noEntry "binop/eql: two nil values of an interface type with methods, neither of them the literal nil"):Sem Unit) (do if <-Op.eqGuardIn Op.maxDepth t a' b' then unsupported (.noEntry "binop/eql: two nil values of an interface type with methods, neither of them the literal nil")) :=aJ (qJ _ _ ha hb) fun c=>aF (aW _ _) (aI _)
 have hg:SR P R L (·=·) (do if <-Op.eqGuardIn Op.maxDepth t a b then unsupported (.noEntry "binop/eql: two nil values of an interface type with methods, in a part of a struct or an array"):Sem Unit) (do if <-Op.eqGuardIn Op.maxDepth t a' b' then unsupported (.noEntry "binop/eql: two nil values of an interface type with methods, in a part of a struct or an array")) :=aJ (qJ _ _ ha hb) fun c=>aF (aW _ _) (aI _)
 cases ha with
 | nilIface=>cases hb with
  | nilIface=>exact aF (aI _) hr
  | _=>exact aI _
 | agg x x' h1 h2=>cases hb with
  | agg y y' h3 h4 =>
   refine bG ?_;refine bG ?_;exact aF (aI _) hg
  | _=>exact aI _
 | _=>cases hb <;> exact aI _
theorem bB(ts:Array TypeId)(t:TypeId){x x' y y':Value}(hx:VR R L x x')(hy:VR R L y y'):SR P R L (VR R L) (Builtin.unsafeAdd_ ts t #[x,y]) (Builtin.unsafeAdd_ ts t #[x',y']):=by
 unfold Builtin.unsafeAdd_
 cases hx with
 | gV =>
  refine aJ (lu hy) fun n=>?_
  refine aF (aW _ _) ?_;exact aF dJ (aW _ _)
 | ptr a b h =>
  refine aJ (lu hy) fun n=>?_
  refine aF ?_ ?_
  .refine aJ (GJ h.1) fun o=>?_
   exact aF dJ (ak (.ptr _ _ h))
  .refine aF dJ ?_;refine aJ (iB h.1) fun o=>?_
   cases o with
   | none=>exact aW _ _
   | some x =>
    obtain⟨e,c⟩:=x;refine bG ?_;rw[h.2.1];split
    .exact ak (.ptr _ _ ⟨h.1,rfl,h.2.2⟩)
    .exact aW _ _
 | _=>exact aj _ _
theorem fP(t:TypeId){x x' y y':Value}(hx:VR R L x x')(hy:VR R L y y'):SR P R L (VR R L) (movedNumber t x y) (movedNumber t x' y'):=by
 unfold movedNumber;refine aP fun d hd=>?_
 refine aF dJ ?_
 cases hx with
 | ptr a b h =>
  dsimp only
  refine aM (aV h) fun p q hpq=>?_
  obtain⟨p1,p2⟩:=p;obtain⟨q1,q2⟩:=q;obtain⟨hp,rfl⟩:AR R p1 q1/\p2=q2:=hpq;dsimp only
  refine aM (bB _ _ (.ptr _ _ hp) hy) fun v w hv=>?_
  cases hv with
  | ptr c d k=>exact KH k _
  | gV=>exact ak .gV
  | bool b=>exact ak (.bool b)
  | int k n=>exact ak (.int k n)
  | string s=>exact ak (.string s)
  | iq n c=>exact ak (.iq n c)
  | slice a b n c h=>exact ak (.slice a b n c h)
  | fV=>exact ak .fV
  | map r s h=>exact ak (.map r s h)
  | chan r=>exact ak (.chan r)
  | func f hf x c y d hx hxv hc hcv=>exact ak (.func f hf x c y d hx hxv hc hcv)
  | nilFunc=>exact ak .nilFunc
  | iface t v w h=>exact ak (.iface t v w h)
  | tJ t a ht ha=>exact ak (.tJ t a ht ha)
  | nilIface=>exact ak .nilIface
  | agg x y hx hv=>exact ak (.agg x y hx hv)
  | tuple x y hx hv=>exact ak (.tuple x y hx hv)
 | gV=>exact bB _ _ .gV hy
 | bool b=>exact bB _ _ (.bool b) hy
 | int k n=>exact bB _ _ (.int k n) hy
 | string s=>exact bB _ _ (.string s) hy
 | iq n c=>exact bB _ _ (.iq n c) hy
 | slice a b n c h=>exact bB _ _ (.slice a b n c h) hy
 | fV=>exact bB _ _ .fV hy
 | map r s h=>exact bB _ _ (.map r s h) hy
 | chan r=>exact bB _ _ (.chan r) hy
 | func f hf x c y d hx hxv hc hcv=>exact bB _ _ (.func f hf x c y d hx hxv hc hcv) hy
 | nilFunc=>exact bB _ _ .nilFunc hy
 | iface t v w h=>exact bB _ _ (.iface t v w h) hy
 | tJ t a ht ha=>exact bB _ _ (.tJ t a ht ha) hy
 | nilIface=>exact bB _ _ .nilIface hy
 | agg x y' hx hv=>exact bB _ _ (.agg x y' hx hv) hy
 | tuple x y' hx hv=>exact bB _ _ (.tuple x y' hx hv) hy
theorem rA(t:TypeId){x x' y y':Value}(hx:VR R L x x')(hy:VR R L y y'):SR P R L (VR R L) (movedPointer t x y) (movedPointer t x' y'):=by
 unfold movedPointer;have h2:=bB (P:=P) #[] t hx hy
 cases hx with
 | ptr a b h =>
  refine aM (Au h.1) fun p q hpq=>?_
  rcases hpq with⟨rfl,rfl⟩|⟨c,d,l,rfl,rfl,_⟩
  .exact h2
  .exact dJ
 | _=>exact h2
theorem Ph(hR:GB P R)(k:IntKind){a b x y:Addr}(h:AR R a b)(h':AR R x y):SR P R L (VR R L) (Op.addrSub k a x) (Op.addrSub k b y):=by
 unfold Op.addrSub;refine aJ (yh hR h h') fun p=>?_
 exact ak (.int _ _)
theorem qC(hR:GB P R)(o:BinOp){a b x y:Addr}(h:AR R a b)(h':AR R x y):SR P R L (VR R L) (Op.addrCmp o a x) (Op.addrCmp o b y):=by
 unfold Op.addrCmp;refine aJ (yh hR h h') fun p=>?_
 cases o <;> first|exact ak (.bool _)|exact aW _ _
theorem vZ(k:IntKind){a b:Addr}(h:AR R a b)(n:Int):SR P R L (VR R L) (Op.addrMod k a n) (Op.addrMod k b n):=by
 unfold Op.addrMod;refine aJ (iB h.1) fun o=>?_
 cases o with
 | none=>exact aW _ _
 | some x =>
  obtain⟨e,c⟩:=x;refine fJ fun i hi=>?_
  exact aF dJ (aJ (kL h) fun _=>ak (.int _ _))
theorem EP(hR:GB P R)(t:TypeId){x y x' y':Value}(hc:EqR P R L t x y)(hx:VR R L x x')(hy:VR R L y y'):SR P R L (VR R L) (do pure (.bool (<- Op.equal t x y))) (do pure (.bool (<- Op.equal t x' y'))) :=aJ (qK hR _ _ hc hx hy) fun _=>ak (.bool _)
theorem Er(hR:GB P R)(t:TypeId){x y x' y':Value}(hc:EqR P R L t x y)(hx:VR R L x x')(hy:VR R L y y'):SR P R L (VR R L) (do pure (.bool (!(<- Op.equal t x y)))) (do pure (.bool (!(<- Op.equal t x' y')))) :=aJ (qK hR _ _ hc hx hy) fun _=>ak (.bool _)
end
end Sr
end
section
open Go.Conc
namespace Sr
section
variable {P:Program}{R:Nat->Nat->Prop}{L:FuncId->Bool}{α β:Type}{C:α->α->Prop}{D:β->β->Prop}
def dead{α:Type}:Sem α->Prop
 | .halt h=>Bd h
 | _=>False
theorem eU{s t:Sem α}(h:dead s):SR P R L C s t:=by
 cases s with
 | halt x=>cases x with
  | panic v=>exact h.elim
  | _=>exact h
 | _=>exact h.elim
theorem DW(o:BinOp)(t:TypeId)(k k':IntKind)(a b:Int):SR P R L (VR R L) (binOp o t (.int k a) (.int k' b)) (binOp o t (.int k a) (.int k' b)):=by
 cases o with
 | shl=>exact JU .shl k a k' b
 | shr=>exact JU .shr k a k' b
 | _=>first
  | exact aF (aj _ _) (Ag _ _ _ _)
  | exact aF (aj _ _) (TI _ _ _ _)
  | exact aF (aj _ _) (Co _ _ _ _)
  | exact aF (aj _ _) (RO _ _ _)
theorem aaZ(o:BinOp)(t:TypeId)(a b:ByteArray):binOp o t (.string a) (.string b)=Op.stringOp o a b:=by cases o <;> rfl
theorem Ei(o:BinOp)(t:TypeId)(a b:ByteArray):SR P R L (VR R L) (binOp o t (.string a) (.string b)) (binOp o t (.string a) (.string b)):=by
 rw[aaZ];exact sP _ _ _
def other:Value->Bool
 | .int ..|.string _|.pointer _|.float ..|.complex ..=>false
 | _=>true
theorem NT(o:BinOp)(t:TypeId)(x y:Value)(ho:o≠.eql)(ho':o≠.neq)(hx:other x=true):dead (binOp o t x y):=by
 cases x <;> first|(cases hx;done)|(cases o <;> first|exact absurd rfl ho|exact absurd rfl ho'|(cases y <;> exact trivial))
theorem VG(o:BinOp)(t:TypeId)(k:IntKind)(n:Int)(y:Value)(ho:o≠.eql)(ho':o≠.neq)(hy:other y=true\/∃ s,y=.string s):dead (binOp o t (.int k n) y):=by
 rcases hy with hy|⟨s,rfl⟩
 .cases y <;> first|(cases hy;done)|(cases o <;> first|exact absurd rfl ho|exact absurd rfl ho'|exact trivial)
 .cases o <;> first|exact absurd rfl ho|exact absurd rfl ho'|exact trivial
theorem Vm(o:BinOp)(t:TypeId)(s:ByteArray)(y:Value)(ho:o≠.eql)(ho':o≠.neq)(hy:∀ u,y≠.string u):dead (binOp o t (.string s) y):=by
 cases y <;> first| exact absurd rfl (hy _)|(cases o <;> first|exact absurd rfl ho|exact absurd rfl ho'|exact trivial)
theorem Z0(hR:GB P R)(o:BinOp)(t:TypeId){a b:Addr}(h:AR R a b){y y':Value}(hc:o=.eql\/o=.neq->EqR P R L t (.pointer (some a)) y)(hy:VR R L y y'):SR P R L (VR R L) (binOp o t (.pointer (some a)) y) (binOp o t (.pointer (some b)) y'):=by
 have he:=fun hc=>EP hR t hc (.ptr a b h) hy
 have hn:=fun hc=>Er hR t hc (.ptr a b h) hy
 cases o with
 | eql=>cases hy <;> exact he (hc (.inl rfl))
 | neq=>cases hy <;> exact hn (hc (.inr rfl))
 | add =>
  have hmn:=fP (P:=P) t (.ptr a b h) hy;have hmp:=rA (P:=P) t (.ptr a b h) hy
  cases hy with
  | int k n=>exact aP fun d _=>aF hmp hmn
  | _=>exact eU trivial
 | sub=>cases hy with
  | int k n=>exact fP _ (.ptr _ _ h) (.int _ _)
  | ptr x x' h'=>exact aM (aV h) fun p q hp=>aM (aV h') fun p' q' hp'=>Ph hR _ hp.1 hp'.1
  | _=>exact eU trivial
 | lss=>cases hy with
  | ptr x x' h'=>exact aM (aV h) fun p q hp=>aM (aV h') fun p' q' hp'=>qC hR _ hp.1 hp'.1
  | _=>exact eU trivial
 | leq=>cases hy with
  | ptr x x' h'=>exact aM (aV h) fun p q hp=>aM (aV h') fun p' q' hp'=>qC hR _ hp.1 hp'.1
  | _=>exact eU trivial
 | gtr=>cases hy with
  | ptr x x' h'=>exact aM (aV h) fun p q hp=>aM (aV h') fun p' q' hp'=>qC hR _ hp.1 hp'.1
  | _=>exact eU trivial
 | geq=>cases hy with
  | ptr x x' h'=>exact aM (aV h) fun p q hp=>aM (aV h') fun p' q' hp'=>qC hR _ hp.1 hp'.1
  | _=>exact eU trivial
 | rem=>cases hy with
  | int k n=>exact aM (aV h) fun p q hp=>vZ _ hp.1 _
  | _=>exact eU trivial
 | and=>cases hy with
  | int k n=>exact aM (aV h) fun p q hp=>vZ _ hp.1 _
  | _=>exact eU trivial
 | _=>cases hy <;> exact eU trivial
theorem ZM(hR:GB P R)(o:BinOp)(t:TypeId)(k:IntKind)(n:Int){y y':Value}(hc:o=.eql\/o=.neq->EqR P R L t (.int k n) y)(hy:VR R L y y'):SR P R L (VR R L) (binOp o t (.int k n) y) (binOp o t (.int k n) y'):=by
 by_cases ho:o=.eql
 .subst ho;have he:=EP hR t (hc (.inl rfl)) (.int k n) hy
  cases hy <;> first|exact DW _ _ _ _ _ _|exact he
 by_cases ho':o=.neq
 .subst ho';have he:=Er hR t (hc (.inr rfl)) (.int k n) hy
  cases hy <;> first|exact DW _ _ _ _ _ _|exact he
 have hd:=VG o t k n y ho ho'
 cases hy with
 | int k' m=>exact DW _ _ _ _ _ _
 | ptr a b h =>
  cases o with
  | eql=>exact absurd rfl ho
  | neq=>exact absurd rfl ho'
  | add=>exact fP _ (.ptr _ _ h) (.int _ _)
  | and=>exact aM (aV h) fun p q hp=>vZ _ hp.1 _
  | _=>exact eU trivial
 | gV =>
  cases o with
  | eql=>exact absurd rfl ho
  | neq=>exact absurd rfl ho'
  | add=>exact fP _ .gV (.int _ _)
  | _=>exact eU trivial
 | string s=>exact eU (hd (.inr ⟨_,rfl⟩))
 | _=>exact eU (hd (.inl rfl))
theorem eG(hR:GB P R)(o:BinOp)(t:TypeId){x x':Value}(ho:other x=true)(hx:VR R L x x'){y y':Value}(hc:o=.eql\/o=.neq->EqR P R L t x y)(hy:VR R L y y'):SR P R L (VR R L) (binOp o t x y) (binOp o t x' y'):=by
 by_cases h1:o=.eql
 .subst h1;have he:=EP hR t (hc (.inl rfl)) hx hy
  cases hx <;> first|(cases ho;done)|(cases hy <;> exact he)
 by_cases h2:o=.neq
 .subst h2;have he:=Er hR t (hc (.inr rfl)) hx hy
  cases hx <;> first|(cases ho;done)|(cases hy <;> exact he)
 exact eU (NT o t x y h1 h2 ho)
theorem Y8(hR:GB P R)(o:BinOp)(t:TypeId){y y':Value}(hc:o=.eql\/o=.neq->EqR P R L t (.pointer none) y)(hy:VR R L y y'):SR P R L (VR R L) (binOp o t (.pointer none) y) (binOp o t (.pointer none) y'):=by
 have he:=fun hc=>EP hR t hc .gV hy
 have hn:=fun hc=>Er hR t hc .gV hy
 cases o with
 | eql=>cases hy <;> exact he (hc (.inl rfl))
 | neq=>cases hy <;> exact hn (hc (.inr rfl))
 | add =>
  have hmn:=fP (P:=P) t .gV hy;have hmp:=rA (P:=P) t .gV hy
  cases hy with
  | int k n=>exact aP fun d _=>aF hmp hmn
  | _=>exact eU trivial
 | sub=>cases hy with
  | int k n=>exact fP _ .gV (.int _ _)
  | _=>exact eU trivial
 | _=>cases hy <;> exact eU trivial
theorem XM(hR:GB P R)(o:BinOp)(t:TypeId){x y x' y':Value}(hc:o=.eql\/o=.neq->EqR P R L t x y)(hx:VR R L x x')(hy:VR R L y y'):SR P R L (VR R L) (binOp o t x y) (binOp o t x' y'):=by
 cases hx with
 | int k n=>exact ZM hR o t k n hc hy
 | ptr a b h=>exact Z0 hR o t h hc hy
 | gV=>exact Y8 hR o t hc hy
 | string s =>
  by_cases ho:o=.eql
  .subst ho;have he:=EP hR t (hc (.inl rfl)) (.string s) hy
   cases hy <;> first|exact Ei _ _ _ _|exact he
  by_cases ho':o=.neq
  .subst ho';have he:=Er hR t (hc (.inr rfl)) (.string s) hy
   cases hy <;> first|exact Ei _ _ _ _|exact he
  have hd:=Vm o t s y ho ho'
  cases hy with
  | string s'=>exact Ei _ _ _ _
  | _=>exact eU (hd (by intro u e;cases e))
 | bool b=>exact eG hR o t rfl (.bool b) hc hy
 | iq n c=>exact eG hR o t rfl (.iq n c) hc hy
 | slice a b n c h=>exact eG hR o t rfl (.slice a b n c h) hc hy
 | fV=>exact eG hR o t rfl .fV hc hy
 | map r s h=>exact eG hR o t rfl (.map r s h) hc hy
 | chan r=>exact eG hR o t rfl (.chan r) hc hy
 | func f hf x c y d hx hxv h1 h2=>exact eG hR o t rfl (.func f hf x c y d hx hxv h1 h2) hc hy
 | nilFunc=>exact eG hR o t rfl .nilFunc hc hy
 | iface t2 v w h=>exact eG hR o t rfl (.iface t2 v w h) hc hy
 | tJ t2 a ht ha=>exact eG hR o t rfl (.tJ t2 a ht ha) hc hy
 | nilIface=>exact eG hR o t rfl .nilIface hc hy
 | agg x y hx hv=>exact eG hR o t rfl (.agg x y hx hv) hc hy
 | tuple x y hx hv=>exact eG hR o t rfl (.tuple x y hx hv) hc hy
theorem p9{a b:Addr}(h:AR R a b):SR P R L (·=·) (markStringish a) (markStringish b):=by
 unfold markStringish;refine aJ (iB h.1) fun o=>?_
 cases o with
 | none=>exact aI _
 | some x=>exact Gs (a:={block:=a.block,off:=x.2}) (b:={block:=b.block,off:=x.2}) ⟨h.1,rfl,rfl⟩ _
theorem pX(e:TypeId)(s:ByteArray):SR P R L (VR R L) (Conv.stringToBytes e s) (Conv.stringToBytes e s):=by
 unfold Conv.stringToBytes;refine gP fun c=>?_
 refine aM (pG (AV.app (AV.abG _ fun a=>.int _ _) (AV.abx _ (.int _ _)))) fun a b hab=>?_
 exact aJ (p9 hab) fun _=>ak (.slice _ _ _ _ hab)
theorem Gm{δ:Type}{f g:Value->δ->Sem (ForInStep δ)}(h:∀ a b s,VR R L a b->SR P R L (·=·) (f a s) (g b s)):∀ {x y:List Value},LV R L x y->∀ (b:δ),SR P R L (·=·) (forIn x b f:Sem δ) (forIn y b g)
 | _,_,.nil,b=>by rw[qbL,qbL];exact aI _
 | _,_,.cons hv k,b=>by
  rw[qbn,qbn];refine aJ (h _ _ b hv) fun s=>?_
  cases s with
  | done b=>exact aI _
  | yield b=>exact Gm h k b
theorem Nl{δ:Type}{f g:Value->δ->Sem (ForInStep δ)}(h:∀ a b s,VR R L a b->SR P R L (·=·) (f a s) (g b s)){x y:Array Value}(hx:AV R L x y)(b:δ):SR P R L (·=·) (forIn x b f:Sem δ) (forIn y b g):=by
 rw[<-qbi,<-qbi];exact Gm h hx.list _
theorem yQ{v w:Value}(h:VR R L v w):SR P R L (VR R L) (Conv.bytesToString v) (Conv.bytesToString w):=by
 unfold Conv.bytesToString
 cases h with
 | iq n c=>exact ak (.string _)
 | slice a b n c hab =>
  dsimp only
  refine aM (qw hab n) fun x y hx=>?_
  refine aJ (Nl (fun a b s hv=>?_) hx _) fun s=>ak (.string _)
  cases hv with
  | int k m=>cases k <;> first|exact aj _ _|exact aI _
  | _=>exact aj _ _
 | _=>exact aj _ _
def acz(P:Program)(s d:TypeId):Bool:=match P.underlying s,P.underlying d with
 | some (.int _),some (.int _)=>true
 | some (.int _),some .string=>true
 | some .string,some .string=>true
 | some .string,some (.slice e)=>match P.underlying e with|some (.int .u8)=>true|_=>false
 | some (.slice e),some .string=>match P.underlying e with|some (.int .u8)=>true|_=>false
 | some (.slice _),some (.slice e)=>match P.underlying e with|some (.int .u8)=>true|_=>false
 | _,_=>false
theorem OG{s d:TypeId}(hc:acz P s d=true){v w:Value}(h:VR R L v w):SR P R L (VR R L) (convert s d v) (convert s d w):=by
 unfold convert;refine aP fun ds hs=>?_
 refine aP fun dd hd=>?_
 unfold acz at hc;rw[hs,hd] at hc;split at hc
 .rename_i e1 e2
  cases e1;cases e2
  cases h with
  | int k n=>exact ak (.int _ _)
  | ptr a b h=>exact aW _ _
  | _=>exact aW _ _
 .rename_i e1 e2
  cases e1;cases e2
  cases h with
  | int k n=>exact ak (.string _)
  | string s=>exact ak (.string _)
  | ptr a b h=>exact aW _ _
  | _=>exact aW _ _
 .rename_i e1 e2
  cases e1;cases e2
  cases h with
  | int k n=>exact ak (.string _)
  | string s=>exact ak (.string _)
  | _=>exact aW _ _
 .rename_i e1 e2
  cases e1;cases e2
  cases h with
  | string s =>
   refine aP fun de he=>?_
   rw[he] at hc
   cases de with
   | int k=>cases k <;> first|(cases hc;done)|exact pX _ _
   | _=>cases hc
  | _=>exact aW _ _
 .rename_i e1 e2
  cases e1;cases e2
  rename_i e0
  have hb:=yQ (P:=P) h;have hu:SR P R L (VR R L) (underlying e0 >>= fun x=>match x with
    | .int .u8=>Conv.bytesToString v
    | .int .i32=>Conv.runesToString v
    | _=>stuck "Convert: a slice of what to string?") (underlying e0 >>= fun x=>match x with
    | .int .u8=>Conv.bytesToString w
    | .int .i32=>Conv.runesToString w
    | _=>stuck "Convert: a slice of what to string?"):=by
   refine aP fun de he=>?_
   rw[he] at hc
   cases de with
   | int k=>cases k <;> first|(cases hc;done)|exact hb
   | _=>cases hc
  cases h with
  | int k n=>exact ak (.string _)
  | string s=>exact ak (.string _)
  | _=>exact hu
 .rename_i e1 e2
  cases e1;cases e2
  cases h with
  | string s =>
   refine aP fun de he=>?_
   rw[he] at hc
   cases de with
   | int k=>cases k <;> first|(cases hc;done)|exact pX _ _
   | _=>cases hc
  | slice a b n c hab =>
   refine aP fun de he=>?_
   cases (s==d) with
   | false=>exact aW _ _
   | true =>
    rw[he] at hc
    cases de with
    | int k=>cases k <;> first|(cases hc;done)|exact aJ (p9 hab) fun _=>ak (.slice _ _ _ _ hab)
    | _=>cases hc
  | _=>exact aW _ _
 .cases hc
end
end Sr
end
section
open Go.Conc
namespace Sr
inductive LE(R:Nat->Nat->Prop)(L:FuncId->Bool):List MapEntry->List MapEntry->Prop
 | nil:LE R L [] []
 | cons {v w:MapEntry} {x y:List MapEntry} (h:ER R L v w) (k:LE R L x y):LE R L (v::x) (w::y)
section
variable {P:Program}{R:Nat->Nat->Prop}{L:FuncId->Bool}{α β:Type}{C:α->α->Prop}{D:β->β->Prop}
theorem LE.of:∀ {x y:List MapEntry},x.length=y.length->(∀ (i:Nat)(v w:MapEntry),x[i]? = some v->y[i]? = some w->ER R L v w)->LE R L x y
 | [],[],_,_=>.nil
 | v::x,w::y,h,k=>.cons (k 0 v w rfl rfl) (LE.of (by simpa using h) fun i a b ha hb=>k (i+1) a b (by simpa using ha) (by simpa using hb))
theorem LE.len:∀ {x y:List MapEntry},LE R L x y->x.length=y.length
 | _,_,.nil=>rfl
 | _,_,.cons _ k=>by simp[LE.len k]
theorem LE.get:∀ {x y:List MapEntry},LE R L x y->∀ (i:Nat)(v w:MapEntry),x[i]? = some v->y[i]? = some w->ER R L v w
 | _,_,.cons h k,0,a,b,ha,hb=>by simp at ha hb;subst ha hb;exact h
 | _,_,.cons h k,i+1,a,b,ha,hb=>LE.get k i a b (by simpa using ha) (by simpa using hb)
theorem EV.list{x y:Array MapEntry}(h:EV R L x y):LE R L x.toList y.toList:=LE.of (by simpa using h.1) fun i v w hv hw=>h.2 i v w (by simpa using hv) (by simpa using hw)
theorem LE.arr{x y:List MapEntry}(h:LE R L x y):EV R L x.toArray y.toArray:=⟨by simpa using h.len,fun i v w hv hw=>h.get i v w (by simpa using hv) (by simpa using hw)⟩
theorem LE.arr'{x y:Array MapEntry}(h:LE R L x.toList y.toList):EV R L x y:=by simpa using h.arr
theorem EV.nil:EV R L #[] #[]:=⟨rfl,fun i v w h _=>by simp at h⟩
theorem EV.get{x y:Array MapEntry}(h:EV R L x y)(i:Nat):(x[i]? = none/\y[i]? = none)\/∃ v w,x[i]? = some v/\y[i]? = some w/\ER R L v w:=by
 cases hx:x[i]? with
 | none =>
  refine .inl ⟨rfl,?_⟩;rw[Array.getElem?_eq_none_iff] at hx ⊢;rw[<-h.1];exact hx
 | some v =>
  have hlt:i<y.size:=by rw[<-h.1];exact(fT.1 hx).1
  exact .inr ⟨v,y[i],rfl,mJ hlt,h.2 i _ _ hx (mJ hlt)⟩
theorem EV.push{x y:Array MapEntry}(h:EV R L x y){v w:MapEntry}(hv:ER R L v w):EV R L (x.push v) (y.push w):=by
 refine⟨by simp[h.1],fun i a b ha hb=>?_⟩;rw[Qi] at ha hb;split at ha
 .rw[<-h.1] at hb;rename_i hi
  rw[if_pos hi] at hb
  cases ha;cases hb;exact hv
 .rw[<-h.1] at hb;rename_i hi
  rw[if_neg hi] at hb;exact h.2 i a b ha hb
theorem EV.modify{x y:Array MapEntry}(h:EV R L x y)(j:Nat){f g:MapEntry->MapEntry}(hf:∀ a b,ER R L a b->ER R L (f a) (g b)):EV R L (x.modify j f) (y.modify j g):=by
 refine⟨by simp[h.1],fun i a b ha hb=>?_⟩;rw[qa3] at ha hb;split at ha
 .rename_i hij
  rw[if_pos hij] at hb;obtain⟨a0,h1,rfl⟩:=zA.1 ha;obtain⟨b0,h2,rfl⟩:=zA.1 hb;exact hf _ _ (h.2 i a0 b0 h1 h2)
 .rename_i hij
  rw[if_neg hij] at hb;exact h.2 i a b ha hb
theorem LE.erase:∀ {x y:List MapEntry},LE R L x y->∀ i,LE R L (x.eraseIdx i) (y.eraseIdx i)
 | _,_,.nil,i=>.nil
 | _,_,.cons h k,0=>k
 | _,_,.cons h k,i+1=>.cons h (LE.erase k i)
theorem EV.erase{x y:Array MapEntry}(h:EV R L x y)(j:Nat):EV R L (x.eraseIdxIfInBounds j) (y.eraseIdxIfInBounds j):=by
 unfold Array.eraseIdxIfInBounds;have hs:=h.1;by_cases hj:j<x.size
 .have hj':j<y.size:=by omega
  rw[dif_pos hj,dif_pos hj'];refine LE.arr' ?_;rw[Array.toList_eraseIdx,Array.toList_eraseIdx];exact h.list.erase j
 .have hj':¬ j<y.size:=by omega
  rw[dif_neg hj,dif_neg hj'];exact h
theorem LE.filter{p:MapEntry->Bool}(hp:∀ a b,ER R L a b->p a=p b):∀ {x y:List MapEntry},LE R L x y->LE R L (x.filter p) (y.filter p)
 | _,_,.nil=>.nil
 | _,_,.cons (v:=v) (w:=w) h k=>by
  rw[List.filter_cons,List.filter_cons,hp v w h];split
  .exact .cons h (LE.filter hp k)
  .exact LE.filter hp k
theorem EV.filter{p:MapEntry->Bool}(hp:∀ a b,ER R L a b->p a=p b){x y:Array MapEntry}(h:EV R L x y):EV R L (x.filter p) (y.filter p):=by
 refine LE.arr' ?_;rw[Array.toList_filter,Array.toList_filter];exact h.list.filter hp
theorem LE.app{x y a b:List MapEntry}(h:LE R L x y)(k:LE R L a b):LE R L (x++a) (y++b):=by
 induction h with
 | nil=>exact k
 | cons h _ ih=>exact .cons h ih
theorem EV.app{x y a b:Array MapEntry}(h:EV R L x y)(k:EV R L a b):EV R L (x++a) (y++b):=by
 refine LE.arr' ?_;rw[qbx,qbx];exact h.list.app k.list
theorem EV.all{p:MapEntry->Bool}(hp:∀ a b,ER R L a b->p a=p b){x y:Array MapEntry}(h:EV R L x y):x.all p=y.all p:=by
 rw[<-Array.all_toList,<-Array.all_toList];have:=h.list;generalize x.toList=l at this;generalize y.toList=m at this
 induction this with
 | nil=>rfl
 | cons h _ ih=>simp only[JJ,ih,hp _ _ h]
theorem EV.empty{x y:Array MapEntry}(h:EV R L x y):x.isEmpty=y.isEmpty:=by
 rw[Array.isEmpty,Array.isEmpty,h.1]
theorem EV.find{p:MapEntry->Bool}(hp:∀ a b,ER R L a b->p a=p b){x y:Array MapEntry}(h:EV R L x y):(x.find? p=none/\y.find? p=none)\/∃ a b,x.find? p=some a/\y.find? p=some b/\ER R L a b:=by
 rw[<-Array.find?_toList,<-Array.find?_toList];have:=h.list;generalize x.toList=l at this;generalize y.toList=m at this
 induction this with
 | nil=>exact .inl ⟨rfl,rfl⟩
 | @cons v w x y h _ ih =>
  rw[List.find?_cons,List.find?_cons,hp _ _ h]
  cases p w with
  | true=>exact .inr ⟨_,_,rfl,rfl,h⟩
  | false=>exact ih
def QU(P:Program)(t:TypeId):Bool:=match P.underlying t with
 | some (.int _)|some .string=>true
 | _=>false
theorem oG{t:TypeId}(hk:QU P t=true)(e e':Bool)(n:Nat)(v w:Value):SR P R L (·=·) (Instr.checkKey e (n+1) t v) (Instr.checkKey e' (n+1) t w):=by
 unfold Instr.checkKey;refine aP fun d hd=>?_
 unfold QU at hk;rw[hd] at hk
 cases d <;> first|(cases hk;done)|exact aI _
def Gg(k:Value):Prop:=(∀ t u,k≠.iface t u)/\∀ x,k≠.agg x
def FR(R:Nat->Nat->Prop)(L:FuncId->Bool)(k:Value):Option (Nat×Value)->Option (Nat×Value)->Prop
 | none,none=>True
 | some (i,v),some (j,w)=>Gg k/\i=j/\VR R L v w
 | _,_=>False
theorem aaW{t:TypeId}(hk:QU P t=true)(x y:Value):EqC P t x y:=by
 refine .inl ⟨1,?_⟩;unfold QU at hk;unfold I4
 cases h:P.underlying t with
 | none=>rfl
 | some d=>rw[h] at hk;cases d <;> first|(cases hk;done)|rfl
theorem OB{t:TypeId}(hk:QU P t=true){k k':Value}(hkv:VR R L k k')(hf:¬ Gg k)(d:Nat)(z z':Value):SR P R L (fun _ _=>False) (Op.equalIn (d+1) t k z) (Op.equalIn (d+1) t k' z'):=by
 unfold Op.equalIn;refine aP fun ds hds=>?_
 unfold QU at hk;rw[hds] at hk
 cases hkv with
 | iface t v w h=>cases ds <;> first|(cases hk;done)|(cases z <;> first|exact aj _ _|exact aW _ _)
 | tJ t a ht ha=>cases ds <;> first|(cases hk;done)|(cases z <;> first|exact aj _ _|exact aW _ _)
 | agg x y hx hv=>cases ds <;> first|(cases hk;done)|(cases z <;> first|exact aj _ _|exact aW _ _)
 | _=>exact absurd ⟨by simp,by simp⟩ hf
theorem uZ(hR:GB P R){t:TypeId}(hkt:QU P t=true){k k':Value}(hk:VR R L k k'):∀ {x y:List MapEntry},LE R L x y->∀ i,SR P R L (FR R L k) (Instr.findAsking t k x i) (Instr.findAsking t k' y i)
 | _,_,.nil,i=>ak trivial
 | _,_,.cons h l,i=>by
  unfold Instr.findAsking;by_cases hf:Gg k
  .refine aJ (qK hR _ _ (.inl (aaW hkt _ _)) hk h.key) fun b=>?_
   exact aF (ak ⟨hf,rfl,h.val⟩) (uZ hR hkt hk l (i+1))
  .exact aM (OB hkt hk hf _ _ _) fun _ _ h=>h.elim
theorem P8{d:TypeDesc}{k k' v v':Value}(hk:VR R L k k')(hv:VR R L v v'):Instr.sameNow d k v=Instr.sameNow d k' v':=by
 cases d with
 | int i=>cases hk <;> cases hv <;> rfl
 | string=>cases hk <;> cases hv <;> rfl
 | bool=>cases hk <;> cases hv <;> rfl
 | _=>rfl
theorem Hy{d:TypeDesc}{k k' v:Value}(hk:VR R L k k')(h:Instr.sameNow d k' v=some true):Gg k:=by
 cases hk with
 | iface t v w hh=>cases d <;> first|(cases h;done)|(cases v <;> cases h)
 | tJ t a ht ha=>cases d <;> first|(cases h;done)|(cases v <;> cases h)
 | agg x y hx hv=>cases d <;> first|(cases h;done)|(cases v <;> cases h)
 | _=>exact⟨by simp,by simp⟩
theorem Ch{d:TypeDesc}{k k':Value}(hk:VR R L k k'):∀ {x y:List MapEntry},LE R L x y->∀ i,(Instr.findNow d k x i=none/\Instr.findNow d k' y i=none)\/∃ a b,Instr.findNow d k x i=some a/\Instr.findNow d k' y i=some b/\FR R L k a b
 | _,_,.nil,i=>.inr ⟨none,none,rfl,rfl,trivial⟩
 | _,_,.cons h l,i=>by
  unfold Instr.findNow;rw[P8 hk h.key];split
  .rename_i hs
   exact .inr ⟨_,_,rfl,rfl,Hy hk hs,rfl,h.val⟩
  .exact Ch hk l (i+1)
  .exact .inl ⟨rfl,rfl⟩
theorem vL(hR:GB P R){t:TypeId}(hkt:QU P t=true){k k':Value}(hk:VR R L k k'){x y:List MapEntry}(h:LE R L x y):SR P R L (FR R L k) (Instr.findKey t k x) (Instr.findKey t k' y):=by
 unfold Instr.findKey;refine aP fun d hd=>?_
 rcases Ch (d:=d) hk h 0 with⟨h1,h2⟩|⟨a,b,h1,h2,h3⟩
 .rw[h1,h2];exact uZ hR hkt hk h 0
 .rw[h1,h2];exact ak h3
theorem Sb(hR:GB P R){t kt et:TypeId}(ht:P.underlying t=some (.map kt et))(hk:QU P kt=true)(hz:G5 P et=true){x x' i i':Value}(hx:VR R L x x')(hi:VR R L i i')(c:Bool):SR P R L (VR R L) (Instr.lookup t x i c) (Instr.lookup t x' i' c):=by
 unfold Instr.lookup;refine aP fun d hd=>?_
 rw[ht] at hd
 cases hd
 have rest:∀ {es es':Array MapEntry},EV R L es es'->SR P R L (VR R L) (do
   Instr.checkKey es.isEmpty 10000 kt i
   let (v,ok) <-match <-Instr.findKey kt i es.toList with
    | some (_,v)=>pure (v,true)
    | none=>pure (<- zeroValue et,false)
   pure (if c then .tuple #[v,.bool ok] else v)) (do
   Instr.checkKey es'.isEmpty 10000 kt i'
   let (v,ok) <-match <-Instr.findKey kt i' es'.toList with
    | some (_,v)=>pure (v,true)
    | none=>pure (<- zeroValue et,false)
   pure (if c then .tuple #[v,.bool ok] else v)):=fun {es es'} he=>by
  refine aJ (oG hk _ _ 9999 _ _) fun _=>?_
  refine aM (vL hR hk hi he.list) fun a b hab=>?_
  have fin:∀ {v w:Value}(ok:Bool),VR R L v w->VR R L (if c then .tuple #[v,.bool ok] else v) (if c then .tuple #[w,.bool ok] else w):=fun {v w} ok hv=>by
   split
   .exact VR.q9 (AV.two hv (.bool _))
   .exact hv
  cases a with
  | none=>cases b with
   | none=>exact kV hz fun z hz=>ak (fin _ hz)
   | some b=>exact hab.elim
  | some a=>cases b with
   | none=>exact hab.elim
   | some b=>exact ak (fin _ hab.2.2)
 cases hx with
 | fV=>exact rest EV.nil
 | map r s h =>
  refine aM (fq h) fun o o' ho=>?_
  cases ho with
  | map x y c h=>exact rest h
  | _=>exact dH
 | _=>exact dH
theorem Rl(hR:PB R){a b c d:Addr}(h:AR R a b)(h':AR R c d):(some a==some c)=(some b==some d):=by
 have:=hR.addr h h';rw[qbG] at this ⊢;simpa using this
theorem KO(hR:PB R):∀ (n:Nat){v v' w w':Value},Gg w->VR R L v v'->VR R L w w'->Instr.sameBits n v w=Instr.sameBits n v' w'
 | 0,_,_,_,_,_,hv,hw=>by
  cases hv with
  | ptr a b h=>cases hw with
   | ptr c d h'=>exact Rl hR h h'
   | _=>rfl
  | _=>cases hw <;> rfl
 | n+1,_,_,_,_,hf,hv,hw=>by
  cases hv with
  | ptr a b h=>cases hw with
   | ptr c d h'=>exact Rl hR h h'
   | _=>rfl
  | iface t v v' h=>cases hw with
   | iface u w w' h'=>exact absurd rfl (hf.1 _ _)
   | tJ u a ht ha=>exact absurd rfl (hf.1 _ _)
   | _=>rfl
  | tJ t a ht ha=>cases hw with
   | iface u w w' h'=>exact absurd rfl (hf.1 _ _)
   | tJ u a ht ha=>exact absurd rfl (hf.1 _ _)
   | _=>rfl
  | agg x y hx hv=>cases hw with
   | agg a b ha hb=>exact absurd rfl (hf.2 _)
   | _=>rfl
  | _=>cases hw <;> rfl
theorem AX(hR:PB R){v v' w w':Value}(hf:Gg w)(hv:VR R L v v')(hw:VR R L w w'):SR P R L (VR R L) (Instr.keyThatStays v w) (Instr.keyThatStays v' w'):=by
 unfold Instr.keyThatStays;rw[KO hR _ hf hv hw];refine aF (ak hw) ?_;refine gP fun n=>ak ?_
 split
 .exact hw
 .exact hv
theorem EV.agX{x y:Array MapEntry}(h:EV R L x y)(i:Nat){k k':Value}(hk:VR R L k k'):VR R L (((x[i]?).map (·.key)).getD k) (((y[i]?).map (·.key)).getD k'):=by
 rcases h.get i with⟨h1,h2⟩|⟨a,b,h1,h2,h3⟩
 .rw[h1,h2];exact hk
 .rw[h1,h2];exact h3.key
theorem I9(hR:GB P R){t kt et:TypeId}(ht:P.underlying t=some (.map kt et))(hk:QU P kt=true){m m' k k' v v':Value}(hm:VR R L m m')(hkv:VR R L k k')(hv:VR R L v v'):SR P R L (·=·) (Instr.mapUpdate t m k v) (Instr.mapUpdate t m' k' v'):=by
 unfold Instr.mapUpdate;refine aP fun d hd=>?_
 rw[ht] at hd
 cases hd
 cases hm with
 | fV=>exact jK rfl
 | map r s h =>
  refine aM (fq h) fun o o' ho=>?_
  cases ho with
  | map x y c he =>
   refine aJ (oG hk _ _ 9999 _ _) fun _=>?_
   refine aM (vL hR hk hkv he.list) fun a b hab=>?_
   cases a with
   | none=>cases b with
    | none=>exact kE h (.map _ _ _ (he.push ⟨hkv,hv,rfl⟩))
    | some b=>exact hab.elim
   | some a=>cases b with
    | none=>exact hab.elim
    | some b =>
     obtain⟨i,w⟩:=a;obtain⟨j,w'⟩:=b;obtain⟨hfl,rfl,_⟩:=hab;refine aM (AX hR.toPB hfl (he.agX i hkv) hkv) fun q q' hq=>?_
     exact kE h (.map _ _ _ (he.modify i fun a b hab=>⟨hq,hv,hab.born⟩))
  | _=>exact aj _ _
 | _=>exact aj _ _
theorem N9(t:TypeId):SR P R L (VR R L) (Instr.makeMap t none) (Instr.makeMap t none) :=aM (ug (.map _ _ _ EV.nil)) fun n n' hn=>ak (.map _ _ hn)
theorem Ze{t:TypeId}{x x':Value}(hx:VR R L x x'):SR P R L (VR R L) (Instr.range t x) (Instr.range t x'):=by
 unfold Instr.range;refine aP fun d hd=>?_
 have fin:∀ {o o':Obj},OR R L o o'->SR P R L (VR R L) (do pure (.pointer (some ⟨<- newObj o,0,none⟩))) (do pure (.pointer (some ⟨<- newObj o',0,none⟩))):=fun ho =>
  aM (ug ho) fun n n' hn=>ak (.ptr _ _ ⟨hn,rfl,rfl⟩)
 cases d with
 | string=>cases hx with
  | string s=>exact fin (.sit _ _)
  | _=>exact dH
 | map a b=>cases hx with
  | fV=>exact fin (.fV _ _ _)
  | map r s h =>
   refine aM (fq h) fun o o' ho=>?_
   cases ho with
   | map x y c he=>exact fin (.M7 _ _ h _ _ _)
   | _=>exact dH
  | _=>exact dH
 | _=>exact dH
theorem Vz{v w:Value}(h:VR R L v w):SR P R L (VR R L) (Instr.entry v) (Instr.entry w):=by
 unfold Instr.entry
 cases h with
 | ptr a b hab =>
  obtain⟨r,o,s⟩:=a;obtain⟨r',o',s'⟩:=b;obtain⟨hr,ho,hs⟩:=hab;simp only at hr ho hs;subst ho hs
  cases o with
  | succ o=>exact aj _ _
  | zero =>
   refine aM (fq hr) fun o o' ho=>?_
   cases ho with
   | M7 m m' hm a s t =>
    dsimp only
    cases s.back? with
    | none=>exact aj _ _
    | some st =>
     refine aM (fq hm) fun o o' ho=>?_
     cases ho with
     | map x y c he =>
      refine aF dJ ?_;rcases he.find (p:=(·.born==st)) (fun a b hab=>by rw[hab.born]) with⟨h1,h2⟩|⟨a,b,h1,h2,h3⟩
      .rw[h1,h2];exact aW _ _
      .rw[h1,h2];exact ak (VR.q9 (AV.two h3.key h3.val))
     | _=>exact aj _ _
   | _=>exact aj _ _
 | _=>exact aj _ _
theorem Uh(hR:GB P R){ts:Array TypeId}{t mt kt et:TypeId}(h0:ts[0]? = some mt)(ht:P.underlying mt=some (.map kt et))(hk:QU P kt=true){xs ys:Array Value}(hx:AV R L xs ys):SR P R L (VR R L) (Builtin.delete_ ts t xs) (Builtin.delete_ ts t ys):=by
 unfold Builtin.delete_;rw[h0];rcases hx.get 0 with⟨h1,h2⟩|⟨m,m',h1,h2,hm⟩
 .rw[h1,h2];exact aj _ _
 rcases hx.get 1 with⟨h3,h4⟩|⟨k,k',h3,h4,hkv⟩
 .rw[h1,h2,h3,h4];exact aj _ _
 rw[h1,h2,h3,h4];refine aP fun d hd=>?_
 rw[ht] at hd
 cases hd
 have fin:VR R L (.tuple #[]) (.tuple #[]):=VR.q9 AV.nil
 cases hm with
 | fV=>exact aJ (oG hk _ _ 9999 _ _) fun _=>ak fin
 | map r s h =>
  refine aM (fq h) fun o o' ho=>?_
  cases ho with
  | map x y c he =>
   refine aJ (oG hk _ _ 9999 _ _) fun _=>?_
   refine aM (vL hR hk hkv he.list) fun a b hab=>?_
   cases a with
   | none=>cases b with
    | none=>exact aJ (kE h (.map _ _ _ he)) fun _=>ak fin
    | some b=>exact hab.elim
   | some a=>cases b with
    | none=>exact hab.elim
    | some b =>
     obtain⟨i,w⟩:=a;obtain⟨j,w'⟩:=b;obtain⟨_,rfl,_⟩:=hab;exact aJ (kE h (.map _ _ _ (he.erase i))) fun _=>ak fin
  | _=>exact dH
 | _=>exact dH
end
end Sr
end
section
open Go.Conc
namespace Sr
section
variable {P:Program}{R:Nat->Nat->Prop}{L:FuncId->Bool}{α β:Type}{C:α->α->Prop}{D:β->β->Prop}
theorem sG{e:RuntimeError}(he:afY e=true){f g:α->Sem β}:SR P R L D (runtimePanic e >>= f) (runtimePanic e >>= g):=aM (C:=fun _ _=>False) (jK he) fun _ _ h=>h.elim
theorem acX{x y:Array MapEntry}(h:EV R L x y)(i:Nat):((x.map some)[i]? = none/\(y.map some)[i]? = none)\/∃ a b,(x.map some)[i]? = some (some a)/\(y.map some)[i]? = some (some b)/\ER R L a b:=by
 rw[JO,JO];rcases h.get i with⟨h1,h2⟩|⟨a,b,h1,h2,h3⟩
 .rw[h1,h2];exact .inl ⟨rfl,rfl⟩
 .rw[h1,h2];exact .inr ⟨a,b,rfl,rfl,h3⟩
theorem abD{v w:Value}(h:VR R L v w)(s:Bool)(t:TypeId):SR P R L (VR R L) (Instr.next v s t) (Instr.next w s t):=by
 unfold Instr.next
 have over:SR P R L (VR R L) (pure (.tuple #[.bool false])) (pure (.tuple #[.bool false])):=ak (VR.q9 (AV.one (.bool _)))
 cases h with
 | ptr a b hab =>
  obtain⟨r,o,sp⟩:=a;obtain⟨r',o',sp'⟩:=b;obtain⟨hr,ho,hs⟩:=hab;simp only at hr ho hs;subst ho hs
  cases o with
  | succ o=>exact aj _ _
  | zero =>
   refine aM (fq hr) fun o o' ho=>?_
   cases ho with
   | sit str p=>cases s with
    | false=>exact aj _ _
    | true =>
     refine aF ?_ over;exact aJ (kE hr (.sit _ _)) fun _=>ak (VR.q9 (AV.three (.bool _) (.int _ _) (.int _ _)))
   | fV a se st=>cases s with
    | true=>exact aj _ _
    | false=>exact over
   | M7 m m' hm since se st=>cases s with
    | true=>exact aj _ _
    | false =>
     refine aM (fq hm) fun o o' ho=>?_
     cases ho with
     | map x y c he =>
      dsimp only
      have e1:x.all (fun e=>decide (e.born>=st))=y.all (fun e=>decide (e.born>=st)):=he.all fun a b hab=>by rw[hab.born]
      rw[he.empty,e1];refine aF dJ ?_;have hl:=he.filter (p:=fun e=>!se.contains e.born) fun a b hab=>by rw[hab.born]
      generalize x.filter (fun e=>!se.contains e.born)=lx at hl;generalize y.filter (fun e=>!se.contains e.born)=ly at hl;have hold:=hl.filter (p:=fun e=>decide (e.born<since)) fun a b hab=>by rw[hab.born]
      have hnew:=hl.filter (p:=fun e=>decide (e.born>=since)) fun a b hab=>by rw[hab.born]
      generalize lx.filter (fun e=>decide (e.born<since))=ox at hold;generalize ly.filter (fun e=>decide (e.born<since))=oy at hold;generalize lx.filter (fun e=>decide (e.born>=since))=nx at hnew;generalize ly.filter (fun e=>decide (e.born>=since))=ny at hnew;rw[hold.empty];have hon:=hold.app hnew;generalize ox++nx=qx at hon;generalize oy++ny=qy at hon;have hsz:((if oy.isEmpty=true then #[none] else #[])++qx.map some).size=((if oy.isEmpty=true then #[none] else #[])++qy.map some).size:=by simp[hon.1]
      rw[hsz];refine gP fun n=>?_
      have hget:∀ i:Nat,(((if oy.isEmpty=true then #[none] else #[])++qx.map some)[i]? = ((if oy.isEmpty=true then #[none] else #[])++qy.map some)[i]?/\∀ e,((if oy.isEmpty=true then #[none] else #[])++qx.map some)[i]?≠some (some e))\/∃ a b,((if oy.isEmpty=true then #[none] else #[])++qx.map some)[i]? = some (some a)/\((if oy.isEmpty=true then #[none] else #[])++qy.map some)[i]? = some (some b)/\ER R L a b:=by
       intro i;have hz:∀ (i:Nat) e,(if oy.isEmpty=true then #[none] else #[]:Array (Option MapEntry))[i]?≠some (some e):=by
        intro i e;split
        .cases i <;> simp
        .simp
       generalize (if oy.isEmpty=true then #[none] else #[]:Array (Option MapEntry))=z at hz;rw[qci,qci];split
       .exact .inl ⟨rfl,fun e he=>hz _ e he⟩
       .rcases acX hon (i-z.size) with⟨h1,h2⟩|⟨a,b,h1,h2,h3⟩
        .exact .inl ⟨by rw[h1,h2],by rw[h1];simp⟩
        .exact .inr ⟨a,b,h1,h2,h3⟩
      rcases hget n with⟨h1,h2⟩|⟨a,b,h1,h2,h3⟩
      .rw[h1] at h2 ⊢;generalize ((if oy.isEmpty=true then #[none] else #[])++qy.map some)[n]? = q at h2
       cases q with
       | none=>exact aj _ _
       | some q=>cases q with
        | none=>exact over
        | some e=>exact absurd rfl (h2 e)
      .rw[h1,h2];dsimp only
       rw[h3.born];exact aJ (kE hr (.M7 _ _ hm _ _ _)) fun _=>ak (VR.q9 (AV.three (.bool _) h3.key h3.val))
     | _=>exact aj _ _
   | _=>cases s <;> exact aj _ _
 | _=>exact aj _ _
theorem Fw{x y:Value}(h:VR R L x y)(t:TypeId){a:TypeId}(hla:L (2*a+1000000000)=false)(hz:G5 P a=true):SR P R L (VR R L) (Instr.typeAssert x t a true) (Instr.typeAssert y t a true):=by
 unfold Instr.typeAssert;have fails:SR P R L (VR R L) (do pure (.tuple #[<-zeroValue a,.bool false])) (do pure (.tuple #[<-zeroValue a,.bool false])):=kV hz fun z hz=>ak (VR.q9 (AV.two hz (.bool _)))
 have holds:∀ {v w:Value},VR R L v w->SR P R L (VR R L) (pure (.tuple #[v,.bool true])) (pure (.tuple #[w,.bool true])):=fun hv=>ak (VR.q9 (AV.two hv (.bool _)))
 refine aP fun d hd=>?_
 cases d with
 | interface ms =>
  cases h with
  | nilIface=>exact fails
  | iface t2 v w h =>
   refine fJ fun i hi=>?_
   cases Instr.missingMethod ms i.methods with
   | none=>exact holds (.iface _ _ _ h)
   | some m=>exact fails
  | tJ t2 a ht ha =>
   refine fJ fun i hi=>?_
   cases Instr.missingMethod ms i.methods with
   | none=>exact holds (.tJ _ _ ht ha)
   | some m=>exact fails
  | _=>exact aj _ _
 | _ =>
  cases h with
  | nilIface=>exact fails
  | iface t2 v w h=>exact aF (holds h) fails
  | tJ t2 b ht hb =>
   have hne:¬ t2=a:=fun e=>by rw[e,hla] at ht;cases ht
   dsimp only
   first|(rw[if_neg hne];exact fails)|(rw[if_neg (show ¬ (t2==a)=true by simpa using hne)];exact fails)
  | _=>exact aj _ _
theorem yK(t:TypeId){x y:Value}(h:VR R L x y):SR P R L (VR R L) (Instr.makeInterface t x) (Instr.makeInterface t y):=by
 unfold Instr.makeInterface;refine aP fun d hd=>?_
 cases d <;> first|exact aj _ _|exact ak (.iface _ _ _ h)
theorem OD{x y:Value}(h:VR R L x y)(hn:x≠.nilIface):SR P R L (VR R L) (Instr.panic x) (Instr.panic y):=by
 unfold Instr.panic
 cases h with
 | iface t v w h=>exact BX (.iface _ _ _ h)
 | tJ t a ht ha=>exact BX (.tJ _ _ ht ha)
 | nilIface=>exact absurd rfl hn
 | _=>exact aj _ _
theorem AV.zero{x y:Array Value}(h:AV R L x y)(n:Nat):AV R L ((Array.range n).map (x[·%x.size]!)) ((Array.range n).map (y[·%y.size]!)) :=AV.abG _ fun i=>by rw[h.1];exact h.afy _
theorem AV.zeroCells{x y:Array Value}(h:AV R L x y)(n:Nat):AV R L (Builtin.zeroCells x n) (Builtin.zeroCells y n):=by
 unfold Builtin.zeroCells;rw[h.1];exact AV.abG _ fun i=>h.afy _
theorem Ib{t e:TypeId}(ht:P.underlying t=some (.slice e))(hz:G5 P e=true){n n' c c':Value}(hn:VR R L n n')(hc:VR R L c c'):SR P R L (VR R L) (Instr.makeSlice t n c) (Instr.makeSlice t n' c'):=by
 unfold Instr.makeSlice;refine aP fun d hd=>?_
 rw[ht] at hd
 cases hd
 refine aJ (lu hn) fun len=>?_
 refine aJ (lu hc) fun cap=>?_
 refine fJ fun i hi=>?_
 have jp:∀ {x y:Array Value}(k z m:Nat),AV R L x y->SR P R L (VR R L) (do let a <-newRow e ((Array.range m).map (x[·%x.size]!));pure (.slice (some a) z k)) (do let a <-newRow e ((Array.range m).map (y[·%y.size]!));pure (.slice (some a) z k)) :=
  fun k z m hx=>aM (pG (hx.zero _)) fun a b hab=>ak (.slice _ _ _ _ hab)
 have fin:∀ (k z:Nat),SR P R L (VR R L) (askRoom (k*i.bytes) >>= fun _=>Go.sizeOf e >>= fun s=>if k*s=0 then((pure #[]:Sem (Array Value)) >>= fun zero=>newRow e ((Array.range (k*s)).map (zero[·%zero.size]!)) >>= fun a=>pure (.slice (some a) z k)) else(zeroValue e >>= fun v=>(pure v.cells:Sem (Array Value)) >>= fun zero=>newRow e ((Array.range (k*s)).map (zero[·%zero.size]!)) >>= fun a=>pure (.slice (some a) z k)))
   (askRoom (k*i.bytes) >>= fun _=>Go.sizeOf e >>= fun s=>if k*s=0 then((pure #[]:Sem (Array Value)) >>= fun zero=>newRow e ((Array.range (k*s)).map (zero[·%zero.size]!)) >>= fun a=>pure (.slice (some a) z k)) else(zeroValue e >>= fun v=>(pure v.cells:Sem (Array Value)) >>= fun zero=>newRow e ((Array.range (k*s)).map (zero[·%zero.size]!)) >>= fun a=>pure (.slice (some a) z k))) :=
  fun k z=>aJ (DT _) fun _=>bL fun s=>aF (rz (jp _ _ _ AV.nil)) (kV hz fun v hv=>rz (jp _ _ _ hv.cells))
 exact aF (aF (sG rfl) (aF (sG rfl) (gP fun _=>sG rfl))) (fin _ _)
theorem QX{f:Nat->Option (Nat×Nat)}:∀ {p q:List (Nat×Value)}{x y:Array Value},AV R L x y->p.length=q.length->(∀ (i:Nat) a b,p[i]? = some a->q[i]? = some b->a.1=b.1/\VR R L a.2 b.2)->(Instr.fill f x p=none/\Instr.fill f y q=none)\/∃ a b,Instr.fill f x p=some a/\Instr.fill f y q=some b/\AV R L a b
 | [],[],x,y,hx,_,_=>.inr ⟨x,y,rfl,rfl,hx⟩
 |(i,v)::p,(j,w)::q,x,y,hx,hl,hp=>by
  obtain⟨h1,h2⟩:=hp 0 _ _ rfl rfl;have h1:i=j:=h1;have h2:VR R L v w:=h2;subst h1;unfold Instr.fill
  cases f i with
  | none=>exact .inl ⟨rfl,rfl⟩
  | some os =>
   obtain⟨off,size⟩:=os;dsimp only
   rw[h2.cells.1,hx.1];split
   .exact .inl ⟨rfl,rfl⟩
   .refine QX ?_ (by simpa using hl) fun k a b ha hb=>hp (k+1) a b (by simpa using ha) (by simpa using hb)
    have hc:=h2.cells.list;rw[<-qb4,<-qb4,Array.toList_zipIdx,Array.toList_zipIdx];have key:∀ {a b:List Value},LV R L a b->∀ (n:Nat){x y:Array Value},AV R L x y->AV R L ((a.zipIdx n).foldl (fun cs p=>cs.setIfInBounds (off+p.2) p.1) x) ((b.zipIdx n).foldl (fun cs p=>cs.setIfInBounds (off+p.2) p.1) y):=by
     intro a b h
     induction h with
     | nil=>intro n x y hx;exact hx
     | cons h _ ih=>intro n x y hx;rw[List.zipIdx_cons,List.zipIdx_cons,Xu,Xu];exact ih _ (hx.set _ h)
    exact key hc 0 hx
def PL(R:Nat->Nat->Prop)(L:FuncId->Bool)(p q:Array (Nat×Value)):Prop:=p.size=q.size/\∀ (i:Nat) a b,p[i]? = some a->q[i]? = some b->a.1=b.1/\VR R L a.2 b.2
theorem PL.fill{f:Nat->Option (Nat×Nat)}{p q:Array (Nat×Value)}(h:PL R L p q){x y:Array Value}(hx:AV R L x y):(Instr.fill f x p.toList=none/\Instr.fill f y q.toList=none)\/∃ a b,Instr.fill f x p.toList=some a/\Instr.fill f y q.toList=some b/\AV R L a b :=QX hx (by simpa using h.1) fun i a b ha hb=>h.2 i a b (by simpa using ha) (by simpa using hb)
theorem FJ{t e:TypeId}(ht:P.underlying t=some (.slice e))(hz:G5 P e=true)(n:Nat){p q:Array (Nat×Value)}(h:PL R L p q):SR P R L (VR R L) (Instr.buildSlice t n p) (Instr.buildSlice t n q):=by
 unfold Instr.buildSlice;refine aP fun d hd=>?_
 rw[ht] at hd
 cases hd
 refine bL fun s=>?_
 have jp:∀ {x y:Array Value},AV R L x y->SR P R L (VR R L) (match Instr.fill (fun i=>some (i*s,s)) ((Array.range (n*s)).map (x[·%x.size]!)) p.toList with
   | some cells=>do pure (.slice (some (<- newRow e cells)) n n)
   | _=>stuck "buildSlice: a part of the wrong size") (match Instr.fill (fun i=>some (i*s,s)) ((Array.range (n*s)).map (y[·%y.size]!)) q.toList with
   | some cells=>do pure (.slice (some (<- newRow e cells)) n n)
   | _=>stuck "buildSlice: a part of the wrong size"):=fun {x y} hx=>by
  rcases h.fill (f:=fun i=>some (i*s,s)) (hx.zero (n*s)) with⟨h1,h2⟩|⟨a,b,h1,h2,h3⟩
  .rw[h1];exact aj _ _
  .rw[h1,h2];exact aM (pG h3) fun a b hab=>ak (.slice _ _ _ _ hab)
 exact aF dJ (aF (rz (jp AV.nil)) (kV hz fun v hv=>rz (jp hv.cells)))
end
end Sr
end
section
open Go.Conc
namespace Sr
section
variable {P:Program}{R:Nat->Nat->Prop}{L:FuncId->Bool}{α β:Type}{C:α->α->Prop}{D:β->β->Prop}
theorem JY{γ δ:Type}{f:γ->Sem δ}(h:∀ a,SR P R L (·=·) (f a) (f a)):∀ l:List γ,SR P R L (·=·) (l.mapM f) (l.mapM f)
 | []=>by rw[qbs];exact aI _
 | a::l=>by
  rw[qbj];exact aJ (h a) fun b=>aJ (JY h l) fun bs=>aI _
theorem V4{t:TypeId}(hz:G5 P t=true){p q:Array (Nat×Value)}(h:PL R L p q):SR P R L (VR R L) (Instr.build t p) (Instr.build t q):=by
 unfold Instr.build;refine kV hz fun z hz=>?_
 refine aP fun d hd=>?_
 cases d with
 | struct fs =>
  refine aJ ?_ fun pl=>?_
  .rw[qaP];exact Hw (D:=(·=·)) (JY (fun f=>bL fun n=>aI _) _) fun a b e=>by rw[e]
  .rcases h.fill (f:=(pl[·]?)) hz.cells with⟨h1,h2⟩|⟨a,b,h1,h2,h3⟩
   .rw[h1];exact aj _ _
   .rw[h1,h2];exact ak (VR.DC h3)
 | array n e =>
  refine bL fun s=>?_
  rcases h.fill (f:=fun i=>some (i*s,s)) hz.cells with⟨h1,h2⟩|⟨a,b,h1,h2,h3⟩
  .rw[h1];exact aj _ _
  .rw[h1,h2];exact ak (VR.DC h3)
 | _=>exact aj _ _
theorem EH{v w:Value}(h:VR R L v w):SR P R L (·=·) (Builtin.lenOf v) (Builtin.lenOf w):=by
 cases h <;> first|exact aj _ _|exact aI _
theorem kX(s n:Nat){v w:Value}(h:VR R L v w):SR P R L (AV R L) (Builtin.firstCells s n v) (Builtin.firstCells s n w):=by
 cases h with
 | iq=>exact ak AV.nil
 | slice a b m c hab=>exact qw hab _
 | string str=>exact ak (AV.abG _ fun a=>.int _ _)
 | _=>exact aj _ _
theorem uS{a b:Addr}(h:AR R a b)(n:Nat):SR P R L (·=·) (Builtin.holdsCells a n) (Builtin.holdsCells b n):=by
 unfold Builtin.holdsCells;refine aJ (iB h.1) fun o=>?_
 cases o with
 | none=>exact aI _
 | some x=>obtain⟨e,m⟩:=x;rw[h.2.1,h.2.2];exact aI _
inductive BO(R:Nat->Nat->Prop):Option Addr->Option Addr->Prop
 | none:BO R none none
 | some {a b:Addr} (h:AR R a b):BO R (some a) (some b)
theorem MB(hR:PB R)(size sLen n:Nat){b b':Option Addr}(hb:BO R b b'){x x':Value}(hx:VR R L x x'):SR P R L (·=·) (Builtin.mayShare size sLen n b x) (Builtin.mayShare size sLen n b' x'):=by
 unfold Builtin.mayShare;have rest:∀ t:Bool,SR P R L (·=·) (do
   if !t then return true
   match x with
   | .slice (some c) _ _=>do pure (!(<- Builtin.holdsCells c (n*size))||b.any (·.block==c.block))
   | _=>pure false:Sem Bool) (do
   if !t then return true
   match x' with
   | .slice (some c) _ _=>do pure (!(<- Builtin.holdsCells c (n*size))||b'.any (·.block==c.block))
   | _=>pure false):=fun t=>by
  refine aF (aI _) ?_
  cases hx with
  | slice c d m k hcd =>
   refine aJ (uS hcd _) fun q=>?_
   have e:b.any (·.block==c.block)=b'.any (·.block==d.block):=by
    cases hb with
    | none=>rfl
    | some h=>exact hR.beq h.1 hcd.1
   rw[e];exact aI _
  | _=>exact aI _
 cases hb with
 | none=>exact rest true
 | some h=>exact aJ (uS h _) fun q=>aJ (nA (h.add _)) fun f=>rest _
theorem Tq(hR:PB R){ts:Array TypeId}{t st e:TypeId}(h0:ts[0]? = some st)(ht:P.underlying st=some (.slice e))(hz:G5 P e=true){xs ys:Array Value}(hx:AV R L xs ys):SR P R L (VR R L) (Builtin.append_ ts t xs) (Builtin.append_ ts t ys):=by
 unfold Builtin.append_;rw[h0];rcases hx.get 0 with⟨h1,h2⟩|⟨s,s',h1,h2,hs⟩
 .rw[h1];exact aj _ _
 rcases hx.get 1 with⟨h3,h4⟩|⟨x,x',h3,h4,Jg⟩
 .rw[h1,h3];exact aj _ _
 rw[h1,h2,h3,h4];refine aP fun d hd=>?_
 rw[ht] at hd
 cases hd
 by_cases hsl:∃ (b b':Option Addr)(n c:Nat),s=.slice b n c/\s'=.slice b' n c/\BO R b b'
 case neg =>
  cases hs with
  | slice a b n c hab=>exact absurd ⟨_,_,n,c,rfl,rfl,.some hab⟩ hsl
  | iq n c=>exact absurd ⟨_,_,n,c,rfl,rfl,.none⟩ hsl
  | _=>exact aj _ _
 obtain⟨base,base',sLen,sCap,rfl,rfl,hb⟩:=hsl;refine bL fun size=>?_
 extract_lets -underBinder jp jq
 have hj:∀ z,SR P R L (VR R L) (jp z) (jq z):=by
  intro z;simp -zeta only[jp,jq]
  extract_lets -underBinder jn jm
  have hn:∀ n,SR P R L (VR R L) (jn n) (jm n):=by
   intro n;simp -zeta only[jn,jm];have happ:SR P R L (AV R L) (if (!z)=true then Builtin.firstCells size n x else if n*size=0 then pure #[] else do pure (Builtin.zeroCells (<- zeroValue e).cells n)) (if (!z)=true then Builtin.firstCells size n x' else if n*size=0 then pure #[] else do pure (Builtin.zeroCells (<- zeroValue e).cells n)) :=aF (kX _ _ Jg) (aF (ak AV.nil) (kV hz fun z hz=>ak (hz.cells.zeroCells _)))
   dsimp only
   refine aF (aM happ fun new new' hnew=>?_) (fJ fun ti hti=>?_)
   .cases hb with
    | none=>exact ak (.iq _ _)
    | some h=>exact aJ (iY (h.add _) hnew.list 0) fun _=>ak (.slice _ _ _ _ h)
   .refine aF (sG rfl) ?_;refine fJ fun ti2 ahT=>?_
    have tail:SR P R L (VR R L) (do
      let newCap <-choose (Question.appendCap (sLen+n) sCap e)
      let __do_lift <-typeInfo e
      askRoom (newCap*__do_lift.bytes)
      let old <-Builtin.firstCells size sLen (Value.slice base sLen sCap)
      let new <-(if (!z)=true then Builtin.firstCells size n x else if n*size=0 then pure #[] else do pure (Builtin.zeroCells (<- zeroValue e).cells n))
      let __do_lift <-zeroValue e
      let __do_lift <-newRow e (old++new++Builtin.zeroCells __do_lift.cells (newCap-(sLen+n)))
      pure (Value.slice (some __do_lift) (sLen+n) newCap)) (do
      let newCap <-choose (Question.appendCap (sLen+n) sCap e)
      let __do_lift <-typeInfo e
      askRoom (newCap*__do_lift.bytes)
      let old <-Builtin.firstCells size sLen (Value.slice base' sLen sCap)
      let new <-(if (!z)=true then Builtin.firstCells size n x' else if n*size=0 then pure #[] else do pure (Builtin.zeroCells (<- zeroValue e).cells n))
      let __do_lift <-zeroValue e
      let __do_lift <-newRow e (old++new++Builtin.zeroCells __do_lift.cells (newCap-(sLen+n)))
      pure (Value.slice (some __do_lift) (sLen+n) newCap)):=by
     refine gP fun cap=>fJ fun ti3 _=>aJ (DT _) fun _=>?_
     refine aM (kX _ _ hs) fun old old' hold=>aM happ fun new new' hnew=>?_
     refine kV hz fun zv hzv=>?_
     exact aM (pG ((hold.app hnew).app (hzv.cells.zeroCells _))) fun a b hab=>ak (.slice _ _ _ _ hab)
    refine aF ?_ tail;refine aJ ?_ fun _=>tail
    refine aF (jK rfl) ?_;refine aJ (MB hR _ _ _ hb Jg) fun c=>?_
    exact aF (aJ (IW rfl) fun _=>aW _ _) (aW _ _)
  clear_value jn jm
  refine aF (aJ (lu Jg) fun l=>?_) (aJ (EH Jg) fun n=>hn n);dsimp only
  refine aF (sG rfl) ?_;refine fJ fun ti hti=>?_
  exact aF (gP fun _=>sG rfl) (hn _)
 clear_value jp jq
 cases ts[1]? with
 | none=>exact rz (hj _)
 | some xt=>exact aP fun d _=>rz (hj _)
theorem aaw{ts:Array TypeId}{t:TypeId}{xs ys:Array Value}(hx:AV R L xs ys):SR P R L (VR R L) (Builtin.copy_ ts t xs) (Builtin.copy_ ts t ys):=by
 unfold Builtin.copy_
 cases ts[0]? with
 | none=>exact aj _ _
 | some dt =>
  rcases hx.get 0 with⟨h1,h2⟩|⟨s,s',h1,h2,hs⟩
  .rw[h1];exact aj _ _
  rcases hx.get 1 with⟨h3,h4⟩|⟨x,x',h3,h4,Jg⟩
  .rw[h1,h3];exact aj _ _
  rw[h1,h2,h3,h4];refine aP fun d hd=>?_
  cases d with
  | slice e =>
   cases hs with
   | iq n c =>
    refine aJ (EH Jg) fun n=>?_
    refine bL fun sz=>?_
    refine aM (kX _ _ Jg) fun x y hx=>?_
    exact ak (.int _ _)
   | slice a b n c hab =>
    refine aJ (EH Jg) fun n=>?_
    refine bL fun sz=>?_
    refine aM (kX _ _ Jg) fun x y hx=>?_
    exact aJ (iY hab hx.list 0) fun _=>ak (.int _ _)
   | _=>exact aj _ _
  | _=>exact aj _ _
def adI(P:Program)(t:TypeId):Bool:=match P.underlying t with
 | some (.slice e)=>G5 P e
 | _=>true
theorem Vs{ts:Array TypeId}{t st:TypeId}(h0:ts[0]? = some st)(hz:adI P st=true){xs ys:Array Value}(hx:AV R L xs ys):SR P R L (VR R L) (Builtin.clear_ ts t xs) (Builtin.clear_ ts t ys):=by
 unfold Builtin.clear_;rw[h0];have fin:VR R L (.tuple #[]) (.tuple #[]):=VR.q9 AV.nil;rcases hx.get 0 with⟨h1,h2⟩|⟨s,s',h1,h2,hs⟩
 .rw[h1];exact aj _ _
 rw[h1,h2];refine aP fun d hd=>?_
 have hmap:∀ {r r':Nat},R r r'->SR P R L (VR R L) (do
   let .map _ clock <-getObj r|stuck "clear: map expected"
   setObj r (.map #[] clock)
   pure (.tuple #[])) (do
   let .map _ clock <-getObj r'|stuck "clear: map expected"
   setObj r' (.map #[] clock)
   pure (.tuple #[])):=fun h=>by
  refine aM (fq h) fun o o' ho=>?_
  cases ho with
  | map x y c he=>exact aJ (kE h (.map _ _ _ EV.nil)) fun _=>ak fin
  | _=>exact aj _ _
 cases hs with
 | fV=>cases d <;> exact ak fin
 | iq n c=>cases d <;> exact ak fin
 | map r s h=>cases d <;> exact hmap h
 | slice a b n c hab =>
  cases n with
  | zero=>cases d <;> exact ak fin
  | succ n =>
   cases d with
   | slice e =>
    unfold adI at hz;rw[hd] at hz;exact kV hz fun z hz=>aJ (iY hab (hz.cells.zeroCells _).list 0) fun _=>ak fin
   | _=>exact dH
 | _=>cases d <;> exact dH
def acu(P:Program)(t:TypeId):Bool:=match P.underlying t with
 | some (.chan _ _)=>false
 | _=>true
theorem adS{ts:Array TypeId}{t st:TypeId}(h0:ts[0]? = some st)(hl:acu P st=true){xs ys:Array Value}(hx:AV R L xs ys):SR P R L (VR R L) (Builtin.len_ ts t xs) (Builtin.len_ ts t ys):=by
 unfold Builtin.len_;rw[h0];rcases hx.get 0 with⟨h1,h2⟩|⟨s,s',h1,h2,hs⟩
 .rw[h1];exact aj _ _
 rw[h1,h2];refine aP fun d hd=>?_
 unfold acu at hl;rw[hd] at hl
 cases d with
 | chan a b=>cases hl
 | string=>cases hs with
  | string s=>exact ak (.int _ _)
  | _=>exact aj _ _
 | array n e=>exact ak (.int _ _)
 | pointer e =>
  refine aP fun d2 _=>?_
  cases d2 with
  | array n e=>exact ak (.int _ _)
  | _=>exact aj _ _
 | slice e=>cases hs with
  | iq n c=>exact ak (.int _ _)
  | slice a b n c h=>exact ak (.int _ _)
  | _=>exact aj _ _
 | map a b=>cases hs with
  | fV=>exact ak (.int _ _)
  | map r s h =>
   refine aM (fq h) fun o o' ho=>?_
   cases ho with
   | map x y c he=>exact ak (by rw[he.1];exact .int _ _)
   | _=>exact aj _ _
  | _=>exact aj _ _
 | _=>exact aj _ _
theorem aaq{x y x' y':Value}(hx:VR R L x x')(hy:VR R L y y'):SR P R L (VR R L) (Builtin.max2 x y) (Builtin.max2 x' y'):=by
 cases hx with
 | int k n=>cases hy with
  | int k m=>exact ak (.int _ _)
  | ptr a b h=>exact aW _ _
  | _=>exact aj _ _
 | string s=>cases hy with
  | string s'=>exact aM (sP _ _ _) fun v w hv=>aJ (zn hv) fun b=>ak (.string _)
  | ptr a b h=>exact aW _ _
  | _=>exact aj _ _
 | ptr a b h=>cases hy <;> exact aW _ _
 | _=>cases hy <;> first|exact aj _ _|exact aW _ _
theorem aa5{x y x' y':Value}(hx:VR R L x x')(hy:VR R L y y'):SR P R L (VR R L) (Builtin.min2 x y) (Builtin.min2 x' y'):=by
 cases hx with
 | int k n=>cases hy with
  | int k m=>exact ak (.int _ _)
  | ptr a b h=>exact aW _ _
  | _=>exact aj _ _
 | string s=>cases hy with
  | string s'=>exact aM (sP _ _ _) fun v w hv=>aJ (zn hv) fun b=>ak (.string _)
  | ptr a b h=>exact aW _ _
  | _=>exact aj _ _
 | ptr a b h=>cases hy <;> exact aW _ _
 | _=>cases hy <;> first|exact aj _ _|exact aW _ _
theorem Cq{f:Value->Value->Sem Value}(hf:∀ {x y x' y':Value},VR R L x x'->VR R L y y'->SR P R L (VR R L) (f x y) (f x' y')):∀ {l m:List Value},LV R L l m->∀ {x y:Value},VR R L x y->SR P R L (VR R L) (l.foldlM f x) (m.foldlM f y)
 | _,_,.nil,x,y,h=>by rw[List.foldlM_nil,List.foldlM_nil];exact ak h
 | _,_,.cons hv k,x,y,h=>by rw[List.foldlM_cons,List.foldlM_cons];exact aM (hf h hv) fun a b hab=>Cq hf k hab
theorem adK{ts:Array TypeId}{t:TypeId}{xs ys:Array Value}(hx:AV R L xs ys):SR P R L (VR R L) (Builtin.max_ ts t xs) (Builtin.max_ ts t ys):=by
 unfold Builtin.max_;have:=hx.list;generalize xs.toList=l at this;generalize ys.toList=m at this
 cases this with
 | nil=>exact aj _ _
 | cons h k=>exact Cq aaq k h
theorem ad9{ts:Array TypeId}{t:TypeId}{xs ys:Array Value}(hx:AV R L xs ys):SR P R L (VR R L) (Builtin.min_ ts t xs) (Builtin.min_ ts t ys):=by
 unfold Builtin.min_;have:=hx.list;generalize xs.toList=l at this;generalize ys.toList=m at this
 cases this with
 | nil=>exact aj _ _
 | cons h k=>exact Cq aa5 k h
theorem Dl{a b:Addr}(h:AR R a b)(u:TypeId)(n:Nat):SR P R L (·=·) (variablesAt a u n) (variablesAt b u n):=by
 unfold variablesAt;refine bG ?_;refine aJ (iB h.1) fun o=>?_
 cases o with
 | none=>exact aI _
 | some x=>rw[h.2.1];exact aI _
theorem xL:∀ (n:Nat){a b:Addr}(h:AR R a b)(acc:ByteArray),SR P R L (·=·) (loadBytes a acc n) (loadBytes b acc n)
 | 0,a,b,h,acc=>aI _
 | n+1,a,b,h,acc=>by
  unfold loadBytes;refine aM (xK h) fun v w hv=>?_
  cases hv with
  | int k m=>cases k <;> first|exact aj _ _|exact xL n (h.add 1) _
  | _=>exact aj _ _
theorem AQ{ts:Array TypeId}{t:TypeId}{x y x' y':Value}(hx:VR R L x x')(hy:VR R L y y'):SR P R L (VR R L) (Builtin.unsafeString_ ts t #[x,y]) (Builtin.unsafeString_ ts t #[x',y']):=by
 unfold Builtin.unsafeString_
 cases hx with
 | gV =>
  refine aJ (lu hy) fun n=>?_
  cases ts[0]? with
  | none=>exact aj _ _
  | some pt=>exact aF (sG rfl) (aF dJ (aF (ak (.string _)) (jK rfl)))
 | ptr a b h =>
  refine aJ (lu hy) fun n=>?_
  cases ts[0]? with
  | none=>exact aj _ _
  | some pt =>
   refine aF (sG rfl) (aF dJ (aF (ak (.string _)) ?_));refine aJ SQ fun e=>?_
   refine aJ (Dl h _ _) fun c=>?_
   refine aF ?_ (aW _ _);exact aJ (xL _ h _) fun s=>aJ (Gs h _) fun _=>ak (.string _)
 | _=>exact aj _ _
end
end Sr
end
section
open Go.Conc
namespace Sr
inductive TR(R:Nat->Nat->Prop)(L:FuncId->Bool):Target->Target->Prop
 | fn (f:FuncId) (hf:L f=true) (x y:Array Value) (h:AV R L x y):TR R L (.fn (.func f) x) (.fn (.func f) y)
 | nil:TR R L .nil .nil
 | builtin (b:Builtin) (ts:Array TypeId) (t:TypeId) (cs:Array Bool):TR R L (.builtin b ts t cs) (.builtin b ts t cs)
structure DR(R:Nat->Nat->Prop)(L:FuncId->Bool)(x y:Deferred):Prop where
 target:TR R L x.target y.target
 args:AV R L x.args y.args
structure CR(R:Nat->Nat->Prop)(L:FuncId->Bool)(x y:CommCase):Prop where
 chan:VR R L x.chan y.chan
 send:VO R L x.send y.send
 zero:VR R L x.zero y.zero
def CV(R:Nat->Nat->Prop)(L:FuncId->Bool)(x y:Array CommCase):Prop:=x.size=y.size/\∀ (i:Nat) a b,x[i]? = some a->y[i]? = some b->CR R L a b
inductive NR(R:Nat->Nat->Prop)(L:FuncId->Bool)(Z:Bool):Next->Next->Prop
 | value {v w:Value} (h:VR R L v w):NR R L Z (.value v) (.value w)
 | skip:NR R L Z .skip .skip
 | enter (f:FuncId) (hf:L f=true) {x y:Array Value} (h:AV R L x y):NR R L Z (.enter f x) (.enter f y)
 | defer {x y:Deferred} (hz:Z=false) (h:DR R L x y):NR R L Z (.defer x) (.defer y)
 | recover (hz:Z=false):NR R L Z .recover .recover
 | comm (hz:Z=false) {x y:Array CommCase} (h:CV R L x y) (b:Bool) (s:CommShape):NR R L Z (.comm x b s) (.comm y b s)
def fK(P:Program)(f:FuncId):Prop:=(P.funcs[f]? = none\/∃ fn,P.funcs[f]? = some fn/\(fn.name == "runtime.NumGoroutine")=false /\
 ((∃ c,fn.body=some c)\/(fn.body=none/\Extern.findNext fn=none/\(Extern.find fn=some Extern.BytealgIndexByte.indexByte\/Extern.find fn=some Extern.BytealgIndex.index)))) /\
 ∀ t:Nat,f=2*t+1000000000->∃ e,P.underlying t=some (.pointer e)
def Dso(R:Nat->Nat->Prop)(L:FuncId->Bool):Prop:=∀ a b:Nat,R a b->L (2*a+1000000001)=false/\L (2*b+1000000001)=false
theorem Vj{P:Program}{R:Nat->Nat->Prop}{L:FuncId->Bool}(hL:∀ f,L f=true->fK P f)(hd:Dso R L):OqD P R L:=⟨hd,fun t h=>(hL _ h).2 t rfl⟩
section
variable {P:Program}{R:Nat->Nat->Prop}{L:FuncId->Bool}{Z:Bool}{α β:Type}{C:α->α->Prop}{D:β->β->Prop}
theorem uI:∀ (n:Nat){a b:Addr}(h:AR R a b)(acc:ByteArray),SR P R L (·=·) (Extern.Bytes.loadBytes a n acc) (Extern.Bytes.loadBytes b n acc)
 | 0,a,b,h,acc=>aI _
 | n+1,a,b,h,acc=>by
  unfold Extern.Bytes.loadBytes;refine aM (xK h) fun v w hv=>?_
  cases hv with
  | int k m=>cases k <;> first|exact aj _ _|exact uI n (h.add 1) _
  | _=>exact aj _ _
theorem vJ{v w:Value}(h:VR R L v w):SR P R L (·=·) (Extern.Bytes.bytesOf v) (Extern.Bytes.bytesOf w):=by
 cases h with
 | string s=>exact aI _
 | iq n c=>exact aI _
 | slice a b n c h=>exact uI _ h _
 | _=>exact aj _ _
theorem Ti{v w:Value}(h:VR R L v w):SR P R L (·=·) (Extern.Bytes.asByte v) (Extern.Bytes.asByte w):=by
 cases h with
 | int k m=>cases k <;> first|exact aj _ _|exact aI _
 | _=>exact aj _ _
theorem I5{xs ys:Array Value}(h:AV R L xs ys):SR P R L (VR R L) (Extern.BytealgIndexByte.indexByte xs) (Extern.BytealgIndexByte.indexByte ys):=by
 have hl:=h.list;obtain⟨x⟩:=xs;obtain⟨y⟩:=ys;simp only at hl
 cases hl with
 | nil=>exact aj _ _
 | cons h1 k=>cases k with
  | nil=>exact aj _ _
  | cons h2 k=>cases k with
   | cons h3 k=>exact aj _ _
   | nil =>
    refine aJ (vJ h1) fun b=>aJ (Ti h2) fun c=>?_
    split
    .exact ak (.int _ _)
    .exact ak (.int _ _)
theorem TD(hR:GB P R){xs ys:Array Value}(h:AV R L xs ys):SR P R L (VR R L) (Extern.BytealgIndex.index xs) (Extern.BytealgIndex.index ys):=by
 have hl:=h.list;obtain⟨x⟩:=xs;obtain⟨y⟩:=ys;simp only at hl
 cases hl with
 | nil=>exact aj _ _
 | cons h1 k=>cases k with
  | nil=>exact aj _ _
  | cons h2 k=>cases k with
   | cons h3 k=>exact aj _ _
   | nil =>
    refine aJ (vJ h1) fun b=>aJ (vJ h2) fun c=>?_
    refine aJ ?_ fun m=>?_
    .unfold Extern.BytealgIndex.maxLen globalAddr;refine aM (C:=AR R) ?_ fun a b hab=>aM (xK hab) fun v w hv=>lu hv
     refine bG ?_
     cases hg:P.globals.findIdx? (·.name == "internal/bytealg.MaxLen") with
     | none=>exact aj _ _
     | some g =>
      have hlt:g<P.globals.size:=by
       rw[Array.findIdx?_eq_some_iff_getElem] at hg;exact hg.1
      exact ak ⟨hR.gl g hlt,rfl,rfl⟩
    .refine aF dJ (aF dJ ?_);split
     .exact ak (.int _ _)
     .exact ak (.int _ _)
theorem Ll(hR:GB P R)(hL:∀ f,L f=true->fK P f){f:FuncId}(hf:L f=true){xs ys:Array Value}(h:AV R L xs ys):SR P R L (NR R L Z) (callFunc f xs) (callFunc f ys):=by
 unfold callFunc;refine bG ?_;rcases (hL f hf).1 with h0|⟨fn,h1,h2,h3⟩
 .rw[h0];exact aj _ _
 rw[h1];dsimp only
 rw[h2];simp only[jI,if_false];rcases h3 with⟨c,hc⟩|⟨hb,hn,he⟩
 .rw[hc];simp only[Option.isNone_some,jI,if_false];exact ak (.enter f hf h)
 .rw[hb];simp only[Option.isNone_none,if_true];refine aJ (IW rfl) fun _=>?_
  rw[hn];rcases he with he|he
  .rw[he];exact aM (I5 h) fun v w hv=>ak (.value hv)
  .rw[he];exact aM (TD hR h) fun v w hv=>ak (.value hv)
theorem Ot{v w:Value}(h:VR R L v w){xs ys:Array Value}(hx:AV R L xs ys):SR P R L (DR R L) (Deferred.ofValue v xs) (Deferred.ofValue w ys):=by
 cases h with
 | func f hf x c y d h1 h2 h3 h4=>exact ak ⟨.fn f hf _ _ ⟨h3,h4⟩,AV.app ⟨h1,h2⟩ hx⟩
 | nilFunc=>exact ak ⟨.nil,hx⟩
 | _=>exact aj _ _
end
def jL(P:Program)(L:FuncId->Bool):Operand->Bool
 | .tmp _=>true
 | .const v=>clean v
 | .global g=>decide (g<P.globals.size)
 | .func f=>L f
def okB(P:Program)(ts:Array TypeId):Builtin->Bool
 | .append=>match ts[0]? with
  | some t=>match P.underlying t with
   | some (.slice e)=>G5 P e
   | _=>false
  | none=>false
 | .clear=>match ts[0]? with
  | some t=>adI P t
  | none=>false
 | .delete=>match ts[0]? with
  | some t=>match P.underlying t with
   | some (.map k _)=>QU P k
   | _=>false
  | none=>false
 | .len=>match ts[0]? with
  | some t=>acu P t
  | none=>false
 | .copy|.max|.min|.recover=>true
 | _=>false
def pY(P:Program)(L:FuncId->Bool)(c:Call):Bool:=c.args.toList.all (jL P L)&&match c.callee with
 | .value f=>jL P L f
 | .builtin .unsafeString=>c.args.size==2
 | .builtin b=>okB P c.argTypes b
 | .invoke ..=>false
def uw(P:Program)(L:FuncId->Bool)(c:Call):Bool:=c.args.toList.all (jL P L)&&match c.callee with
 | .value f=>jL P L f
 | .builtin _=>true
 | .invoke ..=>false
def qI(P:Program)(L:FuncId->Bool)(ps:Array (Nat×Operand)):Bool:=ps.toList.all fun p=>jL P L p.2
def okO(P:Program)(L:FuncId->Bool):Option Operand->Bool
 | none=>true
 | some x=>jL P L x
def bT(P:Program)(L:FuncId->Bool):Op->Bool
 | .move x|.assign x=>jL P L x
 | .pick a b c=>jL P L a&&jL P L b&&jL P L c
 | .alloc t=>G5 P t
 | .box _ x=>jL P L x
 | .build t ps=>G5 P t&&qI P L ps
 | .buildSlice t _ ps=>qI P L ps&&match P.underlying t with
  | some (.slice e)=>G5 P e
  | _=>false
 | .load _ a=>jL P L a
 | .store _ a x=>jL P L a&&jL P L x
 | .nilCheck x=>jL P L x
 | .binOp _ _ x y _=>jL P L x&&jL P L y
 | .unOp _ _ x=>jL P L x
 | .convert s d x=>acz P s d&&jL P L x
 | .sliceToArrayPointer _ x=>jL P L x
 | .makeInterface _ x=>jL P L x
 | .makeFunc fn a b=>a.toList.all (jL P L)&&b.toList.all (jL P L)&&match fn with
  | .func f=>L f
  | _=>false
 | .makeMap _ none=>true
 | .makeSlice t n c=>jL P L n&&jL P L c&&match P.underlying t with
  | some (.slice e)=>G5 P e
  | _=>false
 | .slice _ x lo hi mx=>jL P L x&&okO P L lo&&okO P L hi&&okO P L mx
 | .fieldAddr _ x _|.field _ x _=>jL P L x
 | .indexAddr _ x i|.index _ x i=>jL P L x&&jL P L i
 | .lookup t x i _=>jL P L x&&jL P L i&&match P.underlying t with
  | some (.map k e)=>QU P k&&G5 P e
  | _=>false
 | .mapUpdate t m k x=>jL P L m&&jL P L k&&jL P L x&&match P.underlying t with
  | some (.map k _)=>QU P k
  | _=>false
 | .range _ x=>jL P L x
 | .next x _=>jL P L x
 | .entry x=>jL P L x
 | .typeAssert x _ a ok=>ok&&jL P L x&&G5 P a&&!L (2*a+1000000000)
 | .extract x _=>jL P L x
 | .panic x=>jL P L x
 | .call c=>pY P L c
 | .defer c=>uw P L c
 | .select cs _=>cs.toList.all fun s=>jL P L s.chan&&okO P L s.send&&G5 P s.elem
 | _=>false
section
variable {P:Program}{R:Nat->Nat->Prop}{L:FuncId->Bool}{Z:Bool}{ρ ρ':Operand->Value}
theorem iT{s t:Sem Value}(h:SR P R L (VR R L) s t):SR P R L (NR R L Z) (do pure (.value (<- s))) (do pure (.value (<- t))):=aM h fun v w hv=>ak (.value hv)
theorem aex{s t:Sem Unit}(h:SR P R L (·=·) s t):SR P R L (NR R L Z) (do s;pure .skip) (do t;pure .skip):=aJ h fun _=>ak .skip
theorem AV.ops(hρ:∀ x,jL P L x=true->VR R L (ρ x) (ρ' x)){xs:Array Operand}(h:xs.toList.all (jL P L)=true):AV R L (xs.map ρ) (xs.map ρ'):=by
 rw[Ej] at h;exact AV.mk' (by simp) fun i h1 h2=>by
  simp only[Array.getElem_map];exact hρ _ (h _ (by simp))
theorem VO.ops(hρ:∀ x,jL P L x=true->VR R L (ρ x) (ρ' x)){x:Option Operand}(h:okO P L x=true):VO R L (x.map ρ) (x.map ρ'):=by
 cases x with
 | none=>exact .none
 | some x=>exact .some (hρ x h)
theorem PL.ops(hρ:∀ x,jL P L x=true->VR R L (ρ x) (ρ' x)){xs:Array (Nat×Operand)}(h:qI P L xs=true):PL R L (xs.map fun (i,x)=>(i,ρ x)) (xs.map fun (i,x)=>(i,ρ' x)):=by
 unfold qI at h;rw[Ej] at h;refine⟨by simp,fun i a b ha hb=>?_⟩;rw[JO] at ha hb;obtain⟨p,hp,rfl⟩:=zA.1 ha;rw[hp] at hb
 cases hb
 exact⟨rfl,hρ _ (h p (by simpa using Array.mem_of_getElem? hp))⟩
theorem Od(hρ:∀ x,jL P L x=true->VR R L (ρ x) (ρ' x)){c:Call}{t:TypeId}(h:uw P L c=true):SR P R L (DR R L) (resolve ρ c t) (resolve ρ' c t):=by
 unfold uw at h;rw[fE] at h;have ha:=AV.ops (R:=R) hρ h.1;unfold resolve
 cases hc:c.callee with
 | builtin b=>exact ak ⟨.builtin _ _ _ _,ha⟩
 | value f=>rw[hc] at h;exact Ot (hρ f h.2) ha
 | invoke r m=>rw[hc] at h;exact absurd h.2 (by simp)
theorem zM(hR:GB P R)(hL:∀ f,L f=true->fK P f){x y:Deferred}(h:DR R L x y)(hb:∀ b ts t cs,x.target=.builtin b ts t cs->(b=.unsafeString/\x.args.size=2)\/okB P ts b=true)(hr:∀ ts t cs,x.target=.builtin .recover ts t cs->Z=false):SR P R L (NR R L Z) (invoke x.target x.args) (invoke y.target y.args):=by
 obtain⟨xt,xa⟩:=x;obtain⟨yt,ya⟩:=y;obtain⟨ht,ha⟩:=h;simp only at ht ha hb hr;unfold invoke
 cases ht with
 | nil=>exact jK rfl
 | fn f hf x y h=>exact Ll hR hL hf (ha.app h)
 | builtin b ts t cs =>
  have hb:=hb b ts t cs rfl;unfold builtin;by_cases hu:b=.unsafeString
  .subst hu;have h2:xa.size=2:=by
    rcases hb with h|h
    .exact h.2
    .cases h
   have hl:=ha.list;obtain⟨xa⟩:=xa;obtain⟨ya⟩:=ya;simp only[rJ] at hl h2
   cases hl with
   | nil=>simp at h2
   | cons h1 k=>cases k with
    | nil=>simp at h2
    | cons h3 k=>cases k with
     | cons h4 k=>simp at h2
     | nil=>exact iT (AQ h1 h3)
  .have hb:okB P ts b=true:=hb.resolve_left fun h=>hu h.1
   cases b <;> first|(cases hb;done)|skip
   .unfold okB at hb
    cases h0:ts[0]? with
    | none=>rw[h0] at hb;cases hb
    | some st =>
     rw[h0] at hb;dsimp only at hb
     cases hst:P.underlying st with
     | none=>rw[hst] at hb;cases hb
     | some d =>
      rw[hst] at hb
      cases d <;> first|(cases hb;done)|exact iT (Tq hR.toPB h0 hst hb ha)
   .unfold okB at hb
    cases h0:ts[0]? with
    | none=>rw[h0] at hb;cases hb
    | some st=>rw[h0] at hb;exact iT (Vs h0 hb ha)
   .exact iT (aaw ha)
   .unfold okB at hb
    cases h0:ts[0]? with
    | none=>rw[h0] at hb;cases hb
    | some st =>
     rw[h0] at hb;dsimp only at hb
     cases hst:P.underlying st with
     | none=>rw[hst] at hb;cases hb
     | some d =>
      rw[hst] at hb
      cases d <;> first|(cases hb;done)|exact iT (Uh hR h0 hst hb ha)
   .unfold okB at hb
    cases h0:ts[0]? with
    | none=>rw[h0] at hb;cases hb
    | some st=>rw[h0] at hb;exact iT (adS h0 hb ha)
   .exact iT (adK ha)
   .exact iT (ad9 ha)
   .exact ak (.recover (hr _ _ _ rfl))
theorem aaU(hR:GB P R)(hL:∀ f,L f=true->fK P f)(hρ:∀ x,jL P L x=true->VR R L (ρ x) (ρ' x)){c:Call}{t:TypeId}(h:pY P L c=true)(hr:c.callee=.builtin .recover->Z=false):SR P R L (NR R L Z) (do let d <-resolve ρ c t;invoke d.target d.args) (do let d <-resolve ρ' c t;invoke d.target d.args):=by
 have h0:=h;unfold pY at h;rw[fE] at h;have ha:=AV.ops (R:=R) hρ h.1;unfold resolve
 cases hc:c.callee with
 | builtin b =>
  rw[hc] at h;refine rz ?_;refine zM hR hL ⟨.builtin _ _ _ _,ha⟩ (fun b' ts t' cs e=>?_) (fun ts t' cs e=>by cases e;exact hr hc)
  cases e
  by_cases hu:b=.unsafeString
  .subst hu;exact .inl ⟨rfl,by simpa using h.2⟩
  .refine .inr ?_;have:=h.2
   cases b <;> first|exact this|exact absurd rfl hu
 | value f =>
  rw[hc] at h;refine aM (C:=fun a b=>DR R L a b/\∀ b ts t cs,a.target≠.builtin b ts t cs) ?_ fun a b hab=>zM hR hL hab.1 (fun b ts t cs e=>absurd e (hab.2 _ _ _ _)) (fun ts t cs e=>absurd e (hab.2 _ _ _ _))
  have hv:=hρ f h.2;dsimp only
  generalize ρ f=v at hv;generalize ρ' f=w at hv
  cases hv with
  | func f hf x c y d h1 h2 h3 h4=>exact ak ⟨⟨.fn f hf _ _ ⟨h3,h4⟩,AV.app ⟨h1,h2⟩ ha⟩,fun _ _ _ _ e=>by cases e⟩
  | nilFunc=>exact ak ⟨⟨.nil,ha⟩,fun _ _ _ _ e=>by cases e⟩
  | _=>exact aj _ _
 | invoke r m=>rw[hc] at h;exact absurd h.2 (by simp)
theorem z8(hρ:∀ x,jL P L x=true->VR R L (ρ x) (ρ' x)):∀ {l:List SelectCase},(l.all fun s=>jL P L s.chan&&okO P L s.send&&G5 P s.elem)=true->SR P R L (fun x y=>x.length=y.length/\∀ (i:Nat) a b,x[i]? = some a->y[i]? = some b->CR R L a b) (l.mapM fun s=>do pure {chan:=ρ s.chan,send:=s.send.map ρ,zero:=<-zeroValue s.elem:CommCase}) (l.mapM fun s=>do pure {chan:=ρ' s.chan,send:=s.send.map ρ',zero:=<-zeroValue s.elem:CommCase})
 | [],_=>by rw[qbs,qbs];exact ak ⟨rfl,fun i a b h _=>by simp at h⟩
 | s::l,h=>by
  rw[JJ,fE] at h;obtain⟨h1,h2⟩:=h;simp only[fE] at h1;rw[qbj,qbj];refine aM (C:=CR R L) (kV h1.2 fun z hz=>ak ⟨hρ _ h1.1.1,VO.ops hρ h1.1.2,hz⟩) fun a b hab=>?_
  refine aM (z8 hρ h2) fun x y hxy=>ak ⟨by simp[hxy.1],fun i c d hc hd=>?_⟩
  cases i with
  | zero=>simp at hc hd;subst hc hd;exact hab
  | succ i=>exact hxy.2 i c d (by simpa using hc) (by simpa using hd)
theorem GN(hR:GB P R)(hL:∀ f,L f=true->fK P f)(hρ:∀ x,jL P L x=true->VR R L (ρ x) (ρ' x))(hO:OqD P R L){o:Oper}(ho:bT P L o.op=true)(hp:∀ x,o.op=.panic x->ρ x≠.nilIface)(hz:∀ c,o.op=.defer c->Z=false)(hz':∀ c b,o.op=.select c b->Z=false)(Zq:∀ c,o.op=.call c->c.callee=.builtin .recover->Z=false):SR P R L (NR R L Z) (execOp ρ o) (execOp ρ' o):=by
 unfold execOp;dsimp only
 cases hop:o.op with
 | move x=>rw[hop] at ho;exact ak (.value (hρ x ho))
 | assign x=>rw[hop] at ho;exact ak (.value (hρ x ho))
 | pick a b c =>
  rw[hop] at ho;simp only[bT,fE] at ho;refine aJ (zn (hρ a ho.1.1)) fun t=>ak (.value ?_)
  split
  .exact hρ b ho.1.2
  .exact hρ c ho.2
 | alloc t=>rw[hop] at ho;exact iT (X4 ho)
 | box t x=>rw[hop] at ho;exact iT (ad1 (hρ x ho))
 | build t ps =>
  rw[hop] at ho;simp only[bT,fE] at ho;exact iT (V4 ho.1 (PL.ops hρ ho.2))
 | buildSlice t n ps =>
  rw[hop] at ho;simp only[bT,fE] at ho
  cases ht:P.underlying t with
  | none=>rw[ht] at ho;exact absurd ho.2 (by simp)
  | some d =>
   rw[ht] at ho
   cases d <;> first|exact iT (FJ ht ho.2 n (PL.ops hρ ho.1))|exact absurd ho.2 (by simp)
 | load t a=>rw[hop] at ho;exact iT (Sl (hρ a ho))
 | store t a x =>
  rw[hop] at ho;simp only[bT,fE] at ho;exact aex (PD (hρ a ho.1) (hρ x ho.2))
 | nilCheck x =>
  rw[hop] at ho;have hv:=hρ x ho;dsimp only
  generalize ρ x=v at hv;generalize ρ' x=w at hv
  cases hv with
  | gV=>exact jK rfl
  | nilIface=>exact jK rfl
  | nilFunc=>exact jK rfl
  | bool b=>exact ak (.value (.bool b))
  | int k n=>exact ak (.value (.int k n))
  | string s=>exact ak (.value (.string s))
  | ptr a b h=>exact ak (.value (.ptr a b h))
  | iq n c=>exact ak (.value (.iq n c))
  | slice a b n c h=>exact ak (.value (.slice a b n c h))
  | fV=>exact ak (.value .fV)
  | map r s h=>exact ak (.value (.map r s h))
  | chan r=>exact ak (.value (.chan r))
  | func f hf x c y d hx hxv hc hcv=>exact ak (.value (.func f hf x c y d hx hxv hc hcv))
  | iface t v w h=>exact ak (.value (.iface t v w h))
  | tJ t a ht ha=>exact ak (.value (.tJ t a ht ha))
  | agg x y hx hv=>exact ak (.value (.agg x y hx hv))
  | tuple x y hx hv=>exact ak (.value (.tuple x y hx hv))
 | binOp b t x y t2 =>
  rw[hop] at ho;simp only[bT,fE] at ho;exact iT (aJ (PW _ _ _ _ (hρ x ho.1) (hρ y ho.2)) fun _=>XM hR _ _ (fun _=>.inr hO) (hρ x ho.1) (hρ y ho.2))
 | unOp u t x=>rw[hop] at ho;exact iT (Wz _ (hρ x ho))
 | convert s d x =>
  rw[hop] at ho;simp only[bT,fE] at ho;exact iT (OG ho.1 (hρ x ho.2))
 | sliceToArrayPointer t x=>rw[hop] at ho;exact iT (N7 (hρ x ho))
 | makeInterface t x=>rw[hop] at ho;exact iT (yK _ (hρ x ho))
 | makeFunc fn a b =>
  rw[hop] at ho;simp only[bT,fE] at ho
  cases fn with
  | func f =>
   have h1:=AV.ops (R:=R) hρ ho.1.1;have h2:=AV.ops (R:=R) hρ ho.1.2;exact iT (ak (.func f ho.2 _ _ _ _ h1.1 h1.2 h2.1 h2.2))
  | _=>exact absurd ho.2 (by simp)
 | makeMap t r=>cases r with
  | none=>exact iT (N9 t)
  | some r=>rw[hop] at ho;cases ho
 | makeSlice t n c =>
  rw[hop] at ho;simp only[bT,fE] at ho
  cases ht:P.underlying t with
  | none=>rw[ht] at ho;exact absurd ho.2 (by simp)
  | some d =>
   rw[ht] at ho
   cases d <;> first|exact iT (Ib ht ho.2 (hρ n ho.1.1) (hρ c ho.1.2))|exact absurd ho.2 (by simp)
 | slice t x lo hi mx =>
  rw[hop] at ho;simp only[bT,fE] at ho;exact iT (Ow (hρ x ho.1.1.1) (VO.ops hρ ho.1.1.2) (VO.ops hρ ho.1.2) (VO.ops hρ ho.2))
 | fieldAddr t x f=>rw[hop] at ho;exact iT (Nc (hρ x ho) f)
 | field t x f=>rw[hop] at ho;exact iT (VY (hρ x ho) f)
 | indexAddr t x i =>
  rw[hop] at ho;simp only[bT,fE] at ho;exact iT (O4 (hρ x ho.1) (hρ i ho.2))
 | index t x i =>
  rw[hop] at ho;simp only[bT,fE] at ho;exact iT (Wt (hρ x ho.1) (hρ i ho.2))
 | lookup t x i c =>
  rw[hop] at ho;simp only[bT,fE] at ho
  cases ht:P.underlying t with
  | none=>rw[ht] at ho;exact absurd ho.2 (by simp)
  | some d =>
   rw[ht] at ho
   cases d with
   | map kt et =>
    have h2:=ho.2;simp only[fE] at h2;exact iT (Sb hR ht h2.1 h2.2 (hρ x ho.1.1) (hρ i ho.1.2) c)
   | _=>exact absurd ho.2 (by simp)
 | mapUpdate t m k x =>
  rw[hop] at ho;simp only[bT,fE] at ho
  cases ht:P.underlying t with
  | none=>rw[ht] at ho;exact absurd ho.2 (by simp)
  | some d =>
   rw[ht] at ho
   cases d <;> first|exact aex (I9 hR ht ho.2 (hρ m ho.1.1.1) (hρ k ho.1.1.2) (hρ x ho.1.2))|exact absurd ho.2 (by simp)
 | range t x=>rw[hop] at ho;exact iT (Ze (hρ x ho))
 | next x s=>rw[hop] at ho;exact iT (abD (hρ x ho) s _)
 | entry x=>rw[hop] at ho;exact iT (Vz (hρ x ho))
 | typeAssert x t a ok =>
  rw[hop] at ho;simp only[bT,fE] at ho;obtain⟨⟨⟨rfl,h1⟩,h2⟩,h3⟩:=ho;exact iT (Fw (hρ x h1) t (by simpa using h3) h2)
 | extract x i=>rw[hop] at ho;exact iT (NH (hρ x ho) i)
 | panic x=>rw[hop] at ho;exact iT (OD (hρ x ho) (hp x hop))
 | call c=>rw[hop] at ho;exact aaU hR hL hρ ho (Zq c hop)
 | defer c=>rw[hop] at ho;exact aM (Od hρ ho) fun a b hab=>ak (.defer (hz c hop) hab)
 | select cs b =>
  rw[hop] at ho;have h:=z8 (P:=P) (R:=R) hρ (l:=cs.toList) (by simpa[bT] using ho);refine aM (C:=CV R L) ?_ fun x y hxy=>ak (.comm (hz' cs b hop) hxy _ _)
  rw[qaP,qaP];refine Hw h fun a b hab=>⟨by simpa using hab.1,fun i c d hc hd=>hab.2 i c d (by simpa using hc) (by simpa using hd)⟩
 | _=>rw[hop] at ho;cases ho
end
end Sr
end
section
open Go.Conc
namespace Cc
def GU:Halt->Prop
 | .panic _|.stuck _|.unsupported _=>True
 | _=>False
def Mk0(m:Mark):Prop:=m=.noRoom\/∃ f,m=.extern f
def ok{α:Type}(P:Program)(C:α->Prop):Sem α->Prop
 | .pure a=>C a
 | .load m _ k=>m=.plain/\∀ v,ok P C (k v)
 | .store m _ _ k=>m=.plain/\ok P C k
 | .new _ k=>∀ n,ok P C (k n)
 | .shape _ k=>∀ s,ok P C (k s)
 | .freeze _ _ k=>ok P C k
 | .frozen _ k=>∀ b,ok P C (k b)
 | .getObj _ k=>∀ o,ok P C (k o)
 | .setObj _ _ _=>False
 | .choose _ k=>∀ n,ok P C (k n)
 | .sys _ _=>False
 | .program k=>ok P C (k P)
 | .mark m k=>Mk0 m/\ok P C k
 | .halt h=>GU h
theorem kT{α:Type}{P:Program}{C D:α->Prop}(h:∀ a,C a->D a):∀ {s:Sem α},ok P C s->ok P D s
 | .pure a,hs=>h a hs
 | .load m a k,hs=>⟨hs.1,fun v=>kT h (hs.2 v)⟩
 | .store m a v k,hs=>⟨hs.1,kT h hs.2⟩
 | .new o k,hs=>fun n=>kT h (hs n)
 | .shape r k,hs=>fun s=>kT h (hs s)
 | .freeze a n k,hs=>kT (s:=k) h hs
 | .frozen a k,hs=>fun b=>kT h (hs b)
 | .getObj r k,hs=>fun o=>kT h (hs o)
 | .choose q k,hs=>fun n=>kT h (hs n)
 | .program k,hs=>kT (s:=k P) h hs
 | .mark m k,hs=>⟨hs.1,kT h hs.2⟩
 | .halt h',hs=>hs
theorem d9{α β:Type}{P:Program}{C:α->Prop}{D:β->Prop}{f:α->Sem β}(hf:∀ a,C a->ok P D (f a)):∀ {s:Sem α},ok P C s->ok P D (s.bind f)
 | .pure a,hs=>hf a hs
 | .load m a k,hs=>⟨hs.1,fun v=>d9 hf (hs.2 v)⟩
 | .store m a v k,hs=>⟨hs.1,d9 hf hs.2⟩
 | .new o k,hs=>fun n=>d9 hf (hs n)
 | .shape r k,hs=>fun s=>d9 hf (hs s)
 | .freeze a n k,hs=>d9 (s:=k) hf hs
 | .frozen a k,hs=>fun b=>d9 hf (hs b)
 | .getObj r k,hs=>fun o=>d9 hf (hs o)
 | .choose q k,hs=>fun n=>d9 hf (hs n)
 | .program k,hs=>d9 (s:=k P) hf hs
 | .mark m k,hs=>⟨hs.1,d9 hf hs.2⟩
 | .halt h',hs=>hs
def tp(w:World)(τ:Nat->Question->Nat)(d:Nat):World:={w with tape:=τ,drawn:=d}
theorem V8(w:World)(τ σ:Nat->Question->Nat)(d e:Nat):tp (tp w τ d) σ e=tp w σ e:=rfl
theorem aa0(w:World):tp w w.tape w.drawn=w:=rfl
def tpR{α:Type}(τ:Nat->Question->Nat)(d:Nat):Result α->Result α
 | .ok a w=>.ok a (tp w τ d)
 | .halt h w=>.halt h (tp w τ d)
def rw{α:Type}:Result α->World
 | .ok _ w=>w
 | .halt _ w=>w
def Low(n:Nat)(e:Event):Prop:=(∃ a,e.loc=.cell a/\a.block<n/\e.sync=false)\/(∃ r,e.loc=.obj r/\r<n/\e.write=false)\/e.loc=.mark .noRoom
def EX(n:Nat)(e:Event):Prop:=Low n e\/∃ f,e.loc=.mark (.extern f)
theorem A9{w:World}{a:Addr}{v:Value}(h:w.cell? a=some v):a.block<w.heap.size:=by
 unfold World.cell? at h;split at h
 .rename_i c e f hc;exact(fT.1 hc).1
 .cases h
theorem eD(w:World)(a:Addr)(v:Value):(w.setCell a v).heap.size=w.heap.size:=by simp[World.setCell]
theorem iD(w:World)(a:Addr)(n:Nat):(w.freeze a n).heap.size=w.heap.size:=by unfold World.freeze;split <;> simp
theorem oh(w:World)(a:Addr)(what:String):GU (w.noCell a what):=by
 unfold World.noCell;split <;> trivial
theorem Qp{P:Program}{w:World}{at_ k:Addr}{u:TypeId}{b:Bool}{r:Array Value×TypeId×(Nat×Nat)×Nat×Value×List (Nat×Nat×List UInt8)}(h:w.seen P at_ u k b=.ok r):at_.block<w.heap.size:=by
 apply qba;intro hn;have h0:w.heap[at_.block]? = none:=MW (by omega);unfold World.seen at h;simp only[h0,bind,Except.bind,pure,Except.pure,throw,throwThe,MonadExceptOf.throw] at h
 repeat' (first|(cases h;done)|split at h)
theorem JH{P:Program}{w:World}{at_ k:Addr}{u:TypeId}{b:Bool}{v:Value}{l:List Addr}(h:w.viewLoad P at_ u k b=.ok (v,l)):∀ a∈l,a.block<w.heap.size:=by
 unfold World.viewLoad at h
 cases hs:w.seen P at_ u k b with
 | error e=>rw[hs] at h;cases h
 | ok r =>
  have hlt:=Qp hs;rw[hs] at h;obtain⟨_,_,_,first,like,cells⟩:=r;simp only[bind,Except.bind,pure,Except.pure,throw,throwThe,MonadExceptOf.throw] at h;split at h
  .simp only[qcq,MV] at h;obtain⟨_,rfl⟩:=h;intro a ha;obtain⟨c,_,rfl⟩:=ZW.1 ha;exact hlt
  .cases h
theorem yu(P:Program)(w:World)(at_ k:Addr)(u:TypeId)(b:Bool)(v:Value)(τ:Nat->Question->Nat)(d:Nat):(tp w τ d).viewStore P at_ u k v b=(w.viewStore P at_ u k v b).map fun x=>(tp x.1 τ d,x.2):=by
 have hs':(tp w τ d).seen P at_ u k b=w.seen P at_ u k b:=rfl;unfold World.viewStore;rw[hs'];simp only[bind,Except.bind,pure,Except.pure,throw,throwThe,MonadExceptOf.throw,qb1,jI,if_false]
 repeat' (first|rfl|split)
theorem uJ{P:Program}{w w':World}{at_ k:Addr}{u:TypeId}{b:Bool}{v:Value}{l:List Addr}(h:w.viewStore P at_ u k v b=.ok (w',l)):(∀ a∈l,a.block<w.heap.size)/\w'.heap.size=w.heap.size/\w'.tape=w.tape/\w'.drawn=w.drawn/\∀ τ d,(tp w τ d).viewStore P at_ u k v b=.ok (tp w' τ d,l):=by
 have h0:=h;unfold World.viewStore at h
 cases ht:tight P P.depth u with
 | false=>rw[ht] at h;simp[bind,Except.bind,throw,throwThe,MonadExceptOf.throw] at h
 | true =>
  cases hs:w.seen P at_ u k b with
  | error e =>
   rw[ht,hs] at h;simp[bind,Except.bind,pure,Except.pure,throw,throwThe,MonadExceptOf.throw] at h
  | ok r =>
   have hlt:=Qp hs;rw[ht,hs] at h;obtain⟨c,e,frozen,first,like,cells⟩:=r;have h2:=h;simp only[bind,Except.bind,pure,Except.pure,throw,throwThe,MonadExceptOf.throw,qb1,jI,if_false] at h2;refine(fun hx:_/\_/\_/\_=>⟨hx.1,hx.2.1,hx.2.2.1,hx.2.2.2,fun τ d=>by rw[yu,h0];rfl⟩) ?_;clear h h0 hs
   repeat' (first|(cases h2;done)|split at h2)
   all_goals
    simp only[qcq,MV] at h2;obtain⟨rfl,rfl⟩:=h2;refine⟨fun a ha=>?_,by simp,rfl,rfl⟩;obtain⟨c,_,rfl⟩:=ZW.1 ha;exact hlt
theorem YC(P:Program)(w:World)(a:Addr)(b:Bool):(∃ v l,w.farLoad P a b=.ok (v,l)/\(∀ x∈l,x.block<w.heap.size)/\∀ τ d,(tp w τ d).farLoad P a b=.ok (v,l)) \/ (∃ h,w.farLoad P a b=.error h/\GU h/\∀ τ d,(tp w τ d).farLoad P a b=.error h):=by
 unfold World.farLoad
 cases hb:w.heap[a.block]? with
 | none=>exact .inr ⟨_,rfl,oh _ _ _,fun τ d=>by rw[show(tp w τ d).heap[a.block]? = none from hb];rfl⟩
 | some o =>
  cases o with
  | view at_ u =>
   cases hl:w.viewLoad P at_ u a b with
   | ok r=>exact .inl ⟨r.1,r.2,by simp only[hl],JH hl,fun τ d=>by
     have h1:(tp w τ d).heap[a.block]? = some (.view at_ u):=hb;have h2:(tp w τ d).viewLoad P at_ u a b=.ok r:=hl;simp only[h1,h2]⟩
   | error e=>exact .inr ⟨.unsupported (.unsafePointer e),by simp only[hl],trivial,fun τ d=>by
     have h1:(tp w τ d).heap[a.block]? = some (.view at_ u):=hb;have h2:(tp w τ d).viewLoad P at_ u a b=.error e:=hl;simp only[h1,h2]⟩
  | _=>exact .inr ⟨_,rfl,oh _ _ _,fun τ d=>by
    have h1:=show(tp w τ d).heap[a.block]? = _ from hb
    simp only[h1];rfl⟩
theorem Uy(P:Program)(w:World)(a:Addr)(v:Value)(b:Bool):(∃ w' l,w.farStore P a v b=.ok (w',l)/\(∀ x∈l,x.block<w.heap.size)/\w'.heap.size=w.heap.size/\w'.tape=w.tape/\w'.drawn=w.drawn/\∀ τ d,(tp w τ d).farStore P a v b=.ok (tp w' τ d,l)) \/ (∃ h,w.farStore P a v b=.error h/\GU h/\∀ τ d,(tp w τ d).farStore P a v b=.error h):=by
 unfold World.farStore
 cases hb:w.heap[a.block]? with
 | none=>exact .inr ⟨_,rfl,oh _ _ _,fun τ d=>by rw[show(tp w τ d).heap[a.block]? = none from hb];rfl⟩
 | some o =>
  cases o with
  | view at_ u =>
   cases hl:w.viewStore P at_ u a v b with
   | ok r =>
    obtain⟨h1,h2,h3,h4,h5⟩:=uJ (w':=r.1) (l:=r.2) hl;exact .inl ⟨r.1,r.2,by simp only[hl],h1,h2,h3,h4,fun τ d=>by
     have e1:(tp w τ d).heap[a.block]? = some (.view at_ u):=hb;simp only[e1,h5]⟩
   | error e=>exact .inr ⟨.unsupported (.unsafePointer e),by simp only[hl],trivial,fun τ d=>by
     have e1:(tp w τ d).heap[a.block]? = some (.view at_ u):=hb;have e2:(tp w τ d).viewStore P at_ u a v b=.error e:=by
      rw[yu,hl];rfl
     simp only[e1,e2]⟩
  | _=>exact .inr ⟨_,rfl,oh _ _ _,fun τ d=>by
    have h1:=show(tp w τ d).heap[a.block]? = _ from hb
    simp only[h1];rfl⟩
structure Ran{α:Type}(P:Program)(C:α->Prop)(s:Sem α)(w:World)(es:Array Event)(n:Nat)(r:Result α)(es':Array Event):Prop where
 eq:s.runT P w es=(r,es')
 drawn:(rw r).drawn=w.drawn+n
 tape:(rw r).tape=w.tape
 nat:∀ τ d,(∀ i,i<n->τ (d+i)=w.tape (w.drawn+i))->s.runT P (tp w τ d) es=(tpR τ (d+n) r,es')
 size:w.heap.size<=(rw r).heap.size
 low:∃ u,es'=es++u/\∀ e∈u,EX (rw r).heap.size e
 good:∀ a w',r=.ok a w'->C a
 calm:∀ h w',r=.halt h w'->GU h
theorem Ran.push{α:Type}{P:Program}{C:α->Prop}{s:Sem α}{w:World}{es:Array Event}{e:Event}{r:Result α}{es':Array Event}(he:EX (rw r).heap.size e)(h:∃ u,es'=es.push e++u/\∀ x∈u,EX (rw r).heap.size x):∃ u,es'=es++u/\∀ x∈u,EX (rw r).heap.size x:=by
 obtain⟨u,h1,h2⟩:=h;refine⟨#[e]++u,by rw[h1];apply qcy;simp,fun x hx=>?_⟩;rcases Array.mem_append.1 hx with hx|hx
 .have:x=e:=by simpa using hx
  rw[this];exact he
 .exact h2 x hx
theorem Rb{n:Nat}{es x es':Array Event}(hx:∀ e∈x,EX n e)(h:∃ u,es'=es++x++u/\∀ e∈u,EX n e):∃ u,es'=es++u/\∀ e∈u,EX n e:=by
 obtain⟨u,h1,h2⟩:=h;refine⟨x++u,by rw[h1,qbF],fun e he=>?_⟩;rcases Array.mem_append.1 he with he|he
 .exact hx e he
 .exact h2 e he
theorem nT{α:Type}{P:Program}{C:α->Prop}{s:Sem α}{w:World}{es:Array Event}{h:Halt}(hh:GU h)(e:∀ τ d,s.runT P (tp w τ d) es=(.halt h (tp w τ d),es)):∃ n r es',Ran P C s w es n r es' :=⟨0,.halt h w,es,e w.tape w.drawn,rfl,rfl,fun τ d _=>e τ d,aY _,⟨#[],by simp,by simp⟩,fun a w' h=>(by cases h),fun h' w' e=>(by cases e;exact hh)⟩
theorem dZ{α:Type}{P:Program}{C:α->Prop}:∀ {s:Sem α},ok P C s->∀ (w:World)(es:Array Event),∃ n r es',Ran P C s w es n r es'
 | .pure a,hs,w,es=>⟨0,.ok a w,es,rfl,rfl,rfl,fun τ d _=>rfl,aY _,⟨#[],by simp,by simp⟩,fun b w' e=>by cases e;exact hs,fun h w' e=>by cases e⟩
 | .load m a k,hs,w,es=>by
  cases hc:w.cell? a with
  | none =>
   rcases YC P w a (m==.atomic) with⟨v,l,e1,e2,e3⟩|⟨hh,e1,e2,e3⟩
   .obtain⟨n,r,es',h⟩:=dZ (hs.2 v) w (es++l.toArray.map (⟨.cell ·,false,m==.atomic⟩));have e0:∀ τ d,(Sem.load m a k).runT P (tp w τ d) es=(k v).runT P (tp w τ d) (es++l.toArray.map (⟨.cell ·,false,m==.atomic⟩)):=fun τ d=>by
     have h1:(tp w τ d).cell? a=none:=hc;simp only[Sem.runT,h1,e3]
    exact⟨n,r,es',(e0 w.tape w.drawn).trans h.eq,h.drawn,h.tape,fun τ d ht=>(e0 τ d).trans (h.nat τ d ht),h.size,Rb (fun x hx=>by
     obtain⟨y,hy,rfl⟩:=Array.mem_map.1 hx;exact .inl (.inl ⟨y,rfl,CW (e2 y (by simpa using hy)) h.size,by rw[hs.1];rfl⟩)) h.low,h.good,h.calm⟩
   .refine nT (h:=hh) e2 fun τ d=>?_
    have h1:(tp w τ d).cell? a=none:=hc;simp only[Sem.runT,h1,e3]
  | some v =>
   obtain⟨n,r,es',h⟩:=dZ (hs.2 v) w (es.push ⟨.cell a,false,m==.atomic⟩);have e0:∀ τ d,(Sem.load m a k).runT P (tp w τ d) es=(k v).runT P (tp w τ d) (es.push ⟨.cell a,false,m==.atomic⟩):=fun τ d=>by
    have h1:(tp w τ d).cell? a=some v:=hc;simp only[Sem.runT,h1]
   refine⟨n,r,es',(e0 w.tape w.drawn).trans h.eq,h.drawn,h.tape,fun τ d ht=>(e0 τ d).trans (h.nat τ d ht),h.size,Ran.push (P:=P) (C:=C) (s:=k v) (w:=w) (.inl (.inl ⟨a,rfl,CW (A9 hc) h.size,by rw[hs.1];rfl⟩)) h.low,h.good,h.calm⟩
 | .store m a v k,hs,w,es=>by
  by_cases hagg:(∃ x,v=.agg x)\/∃ x,v=.tuple x
  .refine nT (h:=.stuck "store: not the value of one cell") trivial fun τ d=>?_
   rcases hagg with⟨x,rfl⟩|⟨x,rfl⟩ <;> simp only[Sem.runT]
  .have e1:∀ w:World,(Sem.store m a v k).runT P w es=(match w.cell? a with
     | some _=>if w.frozen? a then(.halt (.unsupported (.unsafePointer "a write to bytes that a string shares")) w,es) else k.runT P (w.setCell a v) (es.push ⟨.cell a,true,m==.atomic⟩)
     | none=>match w.farStore P a v (m==.atomic) with
      | .ok (w,touched)=>k.runT P w (es++touched.toArray.map (⟨.cell ·,true,m==.atomic⟩))
      | .error h=>(.halt h w,es)):=fun w=>by
    cases v <;> first|rfl|exact absurd (.inl ⟨_,rfl⟩) hagg|exact absurd (.inr ⟨_,rfl⟩) hagg
   cases hc:w.cell? a with
   | none =>
    rcases Uy P w a v (m==.atomic) with⟨w',l,e2,e3,e4,e5,e6,e7⟩|⟨hh,e2,e3,e4⟩
    .obtain⟨n,r,es',h⟩:=dZ hs.2 w' (es++l.toArray.map (⟨.cell ·,true,m==.atomic⟩));have e0:∀ τ d,(Sem.store m a v k).runT P (tp w τ d) es=k.runT P (tp w' τ d) (es++l.toArray.map (⟨.cell ·,true,m==.atomic⟩)):=fun τ d=>by
      have h1:(tp w τ d).cell? a=none:=hc;rw[e1];simp only[h1,e7]
     have hsz:w.heap.size<=(rw r).heap.size:=by have:=h.size;rw[e4] at this;exact this
     have hw:tp w' w.tape w.drawn=w':=by rw[<-e5,<-e6];rfl
     refine⟨n,r,es',(e0 w.tape w.drawn).trans (by rw[hw];exact h.eq),by rw[h.drawn,e6],h.tape.trans e5,fun τ d ht=>(e0 τ d).trans (h.nat τ d (by rw[e5,e6];exact ht)),hsz,Rb (fun x hx=>by
      obtain⟨y,hy,rfl⟩:=Array.mem_map.1 hx;exact .inl (.inl ⟨y,rfl,CW (e3 y (by simpa using hy)) hsz,by rw[hs.1];rfl⟩)) h.low,h.good,h.calm⟩
    .refine nT (h:=hh) e3 fun τ d=>?_
     have h1:(tp w τ d).cell? a=none:=hc;rw[e1];simp only[h1,e4]
   | some u =>
    by_cases hf:w.frozen? a=true
    .refine nT (h:=.unsupported (.unsafePointer "a write to bytes that a string shares")) trivial fun τ d=>?_
     have h1:(tp w τ d).cell? a=some u:=hc;have h2:(tp w τ d).frozen? a=true:=hf;rw[e1];simp only[h1,h2,if_true]
    .obtain⟨n,r,es',h⟩:=dZ hs.2 (w.setCell a v) (es.push ⟨.cell a,true,m==.atomic⟩);have e0:∀ τ d,(Sem.store m a v k).runT P (tp w τ d) es=k.runT P (tp (w.setCell a v) τ d) (es.push ⟨.cell a,true,m==.atomic⟩):=fun τ d=>by
      have h1:(tp w τ d).cell? a=some u:=hc;have h2:(tp w τ d).frozen? a=false:=by have h3:w.frozen? a=false:=(by simpa using hf);exact h3
      rw[e1];simp only[h1,h2,jI,if_false];rfl
     have hsz:w.heap.size<=(rw r).heap.size:=by have:=h.size;rw[eD] at this;exact this
     refine⟨n,r,es',(e0 w.tape w.drawn).trans h.eq,h.drawn,h.tape,fun τ d ht=>(e0 τ d).trans (h.nat τ d ht),hsz,Ran.push (P:=P) (C:=C) (s:=k) (w:=w) (.inl (.inl ⟨a,rfl,CW (A9 hc) hsz,by rw[hs.1];rfl⟩)) h.low,h.good,h.calm⟩
 | .new o k,hs,w,es=>by
  obtain⟨n,r,es',h⟩:=dZ (hs w.heap.size) {w with heap:=w.heap.push o} es;exact⟨n,r,es',h.eq,h.drawn,h.tape,fun τ d ht=>h.nat τ d ht,tT (by simp) h.size,h.low,h.good,h.calm⟩
 | .shape a k,hs,w,es=>by
  obtain⟨n,r,es',h⟩:=dZ (hs (w.shape? a)) w es;exact⟨n,r,es',h.eq,h.drawn,h.tape,fun τ d ht=>h.nat τ d ht,h.size,h.low,h.good,h.calm⟩
 | .freeze a m k,hs,w,es=>by
  obtain⟨n,r,es',h⟩:=dZ (s:=k) hs (w.freeze a m) es;have e1:∀ τ d,(tp w τ d).freeze a m=tp (w.freeze a m) τ d:=fun τ d=>by unfold World.freeze;split <;> rfl
  have e2:(w.freeze a m).drawn=w.drawn:=by unfold World.freeze;split <;> rfl
  have e3:(w.freeze a m).tape=w.tape:=by unfold World.freeze;split <;> rfl
  refine⟨n,r,es',h.eq,by rw[h.drawn,e2],h.tape.trans e3,fun τ d ht=>?_,by have:=h.size;rw[iD] at this;exact this,h.low,h.good,h.calm⟩;show k.runT P ((tp w τ d).freeze a m) es=_;rw[e1];exact h.nat τ d (by rw[e2,e3];exact ht)
 | .frozen a k,hs,w,es=>by
  obtain⟨n,r,es',h⟩:=dZ (hs (w.frozen? a)) w es;exact⟨n,r,es',h.eq,h.drawn,h.tape,fun τ d ht=>h.nat τ d ht,h.size,h.low,h.good,h.calm⟩
 | .getObj a k,hs,w,es=>by
  cases hc:w.heap[a]? with
  | none =>
   refine nT (h:=.stuck "getObj: no such block") trivial fun τ d=>?_
   have h1:(tp w τ d).heap[a]? = none:=hc;simp only[Sem.runT,h1]
  | some o =>
   by_cases hcell:∃ c t f,o=.cells c t f
   .obtain⟨c,t,f,rfl⟩:=hcell;refine nT (h:=.stuck "getObj: a row of cells") trivial fun τ d=>?_
    have h1:(tp w τ d).heap[a]? = some (.cells c t f):=hc;simp only[Sem.runT,h1]
   .obtain⟨n,r,es',h⟩:=dZ (hs o) w (es.push ⟨.obj a,false,o.isChan⟩);have e0:∀ τ d,(Sem.getObj a k).runT P (tp w τ d) es=(k o).runT P (tp w τ d) (es.push ⟨.obj a,false,o.isChan⟩):=fun τ d=>by
     have h1:(tp w τ d).heap[a]? = some o:=hc;simp only[Sem.runT,h1];split
     .rename_i x y z hx;cases hx;exact absurd ⟨_,_,_,rfl⟩ hcell
     .rename_i x hx hy;cases hy;rfl
     .rename_i hx;cases hx
    refine⟨n,r,es',(e0 w.tape w.drawn).trans h.eq,h.drawn,h.tape,fun τ d ht=>(e0 τ d).trans (h.nat τ d ht),h.size,Ran.push (P:=P) (C:=C) (s:=k o) (w:=w) (.inl (.inr (.inl ⟨a,rfl,CW (fT.1 hc).1 h.size,rfl⟩))) h.low,h.good,h.calm⟩
 | .choose q k,hs,w,es=>by
  by_cases hf:q.forced=true
  .obtain⟨n,r,es',h⟩:=dZ (hs 0) w es;have e0:∀ τ d,(Sem.choose q k).runT P (tp w τ d) es=(k 0).runT P (tp w τ d) es:=fun τ d=>by simp only[Sem.runT,hf,if_true]
   exact⟨n,r,es',(e0 w.tape w.drawn).trans h.eq,h.drawn,h.tape,fun τ d ht=>(e0 τ d).trans (h.nat τ d ht),h.size,h.low,h.good,h.calm⟩
  .obtain⟨n,r,es',h⟩:=dZ (hs (q.cut (w.tape w.drawn q))) {w with drawn:=w.drawn+1} es;have e0:∀ τ d,τ d=w.tape w.drawn->(Sem.choose q k).runT P (tp w τ d) es=(k (q.cut (w.tape w.drawn q))).runT P (tp {w with drawn:=w.drawn+1} τ (d+1)) es:=fun τ d ht=>by
    have h1:(tp w τ d).tape (tp w τ d).drawn=w.tape w.drawn:=ht;simp only[Sem.runT,hf,if_false,jI,h1];rfl
   refine⟨n+1,r,es',(e0 w.tape w.drawn rfl).trans h.eq,by rw[h.drawn];show w.drawn+1+n=_;omega,h.tape,fun τ d ht=>?_,h.size,h.low,h.good,h.calm⟩;rw[e0 τ d (ht 0 (by omega)),h.nat τ (d+1) (fun i hi=>by
    have:=ht (i+1) (by omega);rw[show d+1+i=d+(i+1) by omega,this];show w.tape _=w.tape (w.drawn+1+i);rw[show w.drawn+1+i=w.drawn+(i+1) by omega])]
   rw[show d+1+n=d+(n+1) by omega]
 | .program k,hs,w,es=>by
  obtain⟨n,r,es',h⟩:=dZ (s:=k P) hs w es;exact⟨n,r,es',h.eq,h.drawn,h.tape,fun τ d ht=>h.nat τ d ht,h.size,h.low,h.good,h.calm⟩
 | .mark m k,hs,w,es=>by
  obtain⟨n,r,es',h⟩:=dZ hs.2 w (es.push ⟨.mark m,false,true⟩);exact⟨n,r,es',h.eq,h.drawn,h.tape,fun τ d ht=>h.nat τ d ht,h.size,Ran.push (P:=P) (C:=C) (s:=k) (w:=w) (hs.1.elim (fun e=>.inl (.inr (.inr (by rw[e])))) fun⟨f,e⟩=>.inr ⟨f,by rw[e]⟩) h.low,h.good,h.calm⟩
 | .halt h',hs,w,es=>nT hs fun τ d=>rfl
