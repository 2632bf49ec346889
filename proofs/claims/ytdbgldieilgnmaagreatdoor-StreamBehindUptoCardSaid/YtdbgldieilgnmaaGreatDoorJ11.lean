/- J11 -/
import Derived.Test.YtdbgldieilgnmaaGreatDoorJ10
set_option linter.unusedVariables false
set_option linter.unusedSimpArgs false
set_option maxHeartbeats 8000000
set_option maxRecDepth 100000
namespace Go.Proofs.YtdbgldieilgnmaaGreatDoor
open Go.Proofs.Tryz
open Go.Proofs.Tryz renaming prog → qp0
open Go.ChangeShapes Go.WideShapes Go.ChangeAt Go.RowKit
def iX(f:Nat->UInt8):Nat->List UInt8
 | 0=>[]
 | n+1=>f n::iX f n
theorem oM(f:Nat->UInt8):iX f 0=[]:=rfl
theorem cO(f:Nat->UInt8)(n:Nat):iX f (n+1)=f n::iX f n:=rfl
theorem cu(f:Nat->UInt8):∀ n,(iX f n).length=n
 | 0=>rfl
 | n+1=>by rw[cO,oH,cu f n]
theorem Aw(f:Nat->UInt8):∀ (n i:Nat),i<n->(iX f n).getD i 0=f (n - 1-i)
 | 0,i,h=>absurd h (qbq i)
 | n+1,0,_=>by rw[cO];rfl
 | n+1,i+1,h=>by
  have ih:=Aw f n i (by omega);rw[cO,show n+1 - 1-(i+1)=n - 1-i by omega,<-ih];simp[List.getD]
def jM(z:UInt8)(f:Nat->UInt8)(n k:Nat)(tail:List UInt8):List UInt8:=List.replicate (n-k) z++iX f k++tail
theorem Jf(z:UInt8)(f:Nat->UInt8)(n:Nat)(tail:List UInt8):jM z f n 0 tail=List.replicate n z++tail:=by
 unfold jM;rw[oM,Nat.sub_zero,Qq]
theorem Me(z:UInt8)(f:Nat->UInt8)(n k:Nat)(tail:List UInt8)(h:k<=n):(jM z f n k tail).length=n+tail.length:=by
 unfold jM;rw[vG,vG,Xm,cu];omega
theorem K5(z:UInt8)(f:Nat->UInt8)(n k:Nat)(tail:List UInt8)(h:k<n):(jM z f n k tail).set (n - 1-k) (f k)=jM z f n (k+1) tail:=by
 unfold jM;have e:n-k=(n-(k+1))+1:=by omega
 rw[e,List.replicate_succ',cO,qbI,qbI,qbI,qck _ _ (by rw[Xm];omega),Xm,show n - 1-k-(n-(k+1))=0 by omega];rfl
theorem Js(z:UInt8)(f:Nat->UInt8)(n k:Nat)(tail:List UInt8):(jM z f n k tail).drop (n-k)=iX f k++tail:=by
 unfold jM;rw[qbI,List.drop_append_of_le_length (by rw[Xm];exact aY _),qa9 (by rw[Xm];exact aY _),yG]
def iQ(v:Nat)(j:Nat):UInt8:=UInt8.ofNat (48+v / 8^j%8)
theorem EK(v j:Nat):(iQ v j).toNat=48+v / 8^j%8:=by
 unfold iQ;rw[qbR];have:=qcz (v / 8^j) (show 0<8 by decide);omega
theorem vU(v j:Nat):eX (iQ v j)=true:=by
 rw[kN,EK];have:=qcz (v / 8^j) (show 0<8 by decide);omega
theorem Kv(v j:Nat)(h:v<8^j):iQ v j=48:=by
 unfold iQ;rw[Nat.div_eq_of_lt h];rfl
def bf(v n:Nat):List UInt8:=iX (iQ v) n
theorem C8(v:Nat):∀ n,(bf v n).all eX=true
 | 0=>rfl
 | n+1=>by
  have ih:=C8 v n;unfold bf at *
  rw[cO,JJ,vU,ih];rfl
theorem Ed(v:Nat):∀ n,bK 0 (bf v n)=v%8^n
 | 0=>by unfold bf;rw[oM,kQ,Nat.pow_zero,Nat.mod_one]
 | n+1=>by
  have ih:=Ed v n;unfold bf at *
  rw[cO,lW,qp,ih,cu,EK,qbN,Nat.mod_mul,Nat.zero_mul,lU,show 48+v / 8^n%8 - 48=v / 8^n%8 by omega,Nat.mul_comm,Nat.add_comm]
theorem BG(v d:Nat)(h:v<8^d):∀ k,bf v (d+k)=List.replicate k 48++bf v d
 | 0=>by rw[R4,List.replicate_zero,yG]
 | k+1=>by
  have ih:=BG v d h k;unfold bf at *
  have hk:v<8^(d+k):=CW h (qcr (by decide) (by omega));rw[<-Zu,cO,Kv v _ hk,ih,List.replicate_succ,NJ]
def qL(v:Nat):Nat:=if v<8 then 1 else qL (v / 8)+1
theorem aap(v:Nat):1<=qL v:=by unfold qL;split <;> omega
theorem KL:∀ v,v<8^qL v:=by
 intro v
 induction v using Nat.strongRecOn with
 | ind v ih =>
  unfold qL;by_cases h:v<8
  .rw[if_pos h];simpa using h
  .rw[if_neg h,qbN];have:=ih (v / 8) (by omega);omega
theorem Ww:∀ v n,1<=n->v<8^n->qL v<=n:=by
 intro v
 induction v using Nat.strongRecOn with
 | ind v ih =>
  intro n hn h;unfold qL;by_cases h8:v<8
  .rw[if_pos h8];exact hn
  .rw[if_neg h8];obtain⟨m,rfl⟩:∃ m,n=m+1:=⟨n - 1,by omega⟩
   have hm:1<=m:=by
    rcases UZ m with h0|h0
    .subst h0;simp at h;omega
    .exact h0
   rw[qbN] at h;have:=ih (v / 8) (by omega) m hm (by omega);omega
theorem Rj(v n:Nat)(hn:1<=n):qL v<=n↔v<8^n :=⟨fun h=>CW (KL v) (qcr (by decide) h),Ww v n hn⟩
def mO(v:Int)(j:Nat):UInt8:=UInt8.ofNat (v / 256^j%256).toNat
theorem Al(v:Int)(j:Nat):((mO v j).toNat:Int)=v / 256^j%256:=by
 unfold mO;have h1:=Int.emod_nonneg (v / 256^j) (show(256:Int)≠0 by decide);have h2:=Int.emod_lt_of_pos (v / 256^j) (show(0:Int)<256 by decide);rw[qbR];omega
def kD(v:Int)(n:Nat):List UInt8:=iX (mO v) n
theorem Cr(v:Int)(n:Nat):(kD v n).length=n:=cu _ n
theorem ES(v:Int):∀ n,dx 0 (kD v n)=v%256^n
 | 0=>by unfold kD;rw[oM,jf,Int.pow_zero,Int.emod_one]
 | n+1=>by
  have ih:=ES v n;unfold kD at *
  rw[cO,jF,qA,ih,cu,Al,Int.zero_mul,Int.zero_add,Int.pow_succ];have hp:(0:Int)<256^n:=Int.pow_pos (by decide);generalize (256:Int)^n=p at *
  have e1:=qcl v p;have e2:=qcl (v / p) 256;have e3:v / (p*256)=v / p / 256:=by rw[Int.ediv_ediv_of_nonneg (by omega)]
  have e4:=qcl v (p*256);rw[e3] at e4;have e5:p*(v / p)=p*(v / p%256)+p*256*(v / p / 256):=by
   rw[Int.mul_assoc,<-Int.mul_add,e2]
  rw[Int.mul_comm (v / p%256) p];omega
def gX(b:UInt8):Bool:=b==32||b==0
def dM(l:List UInt8):List UInt8:=(l.reverse.dropWhile gX).reverse
theorem Ry:dM []=[]:=rfl
theorem Rq(t:List UInt8)(c:UInt8)(h:gX c=true):dM (t++[c])=dM t:=by
 unfold dM;rw[qbP,qcc,qcm,qaY h]
theorem G9(t:List UInt8)(c:UInt8)(h:gX c=false):dM (t++[c])=t++[c]:=by
 unfold dM;rw[qbP,qcc,qcm,qaT (by rw[h];exact Bool.false_ne_true)];simp
theorem xX{p:UInt8->Bool}:∀ (l:List UInt8),l.all p=false->l.dropWhile p≠[]
 | [],h=>by simp at h
 | c::l,h=>by
  by_cases hc:p c=true
  .rw[qaY hc];rw[JJ,hc,Bool.true_and] at h;exact xX l h
  .rw[qaT hc];simp
theorem rH{p:UInt8->Bool}:∀ (x y:List UInt8),x.all p=false->(x++y).dropWhile p=x.dropWhile p++y
 | [],_,h=>by simp at h
 | c::x,y,h=>by
  by_cases hc:p c=true
  .rw[NJ,qaY hc,qaY hc];rw[JJ,hc,Bool.true_and] at h;exact rH x y h
  .rw[NJ,qaT hc,qaT hc,NJ]
theorem nM{p:UInt8->Bool}:∀ (x y:List UInt8),x.all p=true->(x++y).dropWhile p=y.dropWhile p
 | [],_,_=>rfl
 | c::x,y,h=>by
  rw[JJ,fE] at h;rw[NJ,qaY h.1,nM x y h.2]
theorem OT(x y:List UInt8)(h:y.all gX=true):dM (x++y)=dM x:=by
 unfold dM;rw[qbP,nM _ _ (by rw[List.all_reverse];exact h)]
theorem Px(x y:List UInt8)(h:y.all gX=false):dM (x++y)=x++dM y:=by
 unfold dM;rw[qbP,rH _ _ (by rw[List.all_reverse];exact h),qbP,qcs]
theorem EM(c:UInt8)(h:eX c=true):gX c=false:=by
 rw[kN] at h;simp only[gX,Bool.or_eq_false_iff,beq_eq_false_iff_ne,ne_eq];refine⟨fun e=>?_,fun e=>?_⟩ <;> subst e <;> simp at h
theorem Us(D:List UInt8)(h:D.all eX=true):dM D=D:=by
 by_cases h0:D=[]
 .subst h0;rfl
 .obtain⟨t,c,rfl⟩:∃ t c,D=t++[c]:=⟨D.dropLast,D.getLast h0,(qbS h0).symm⟩
  have hc:eX c=true:=by
   rw[qcp,fE] at h;simpa using h.2
  exact G9 t c (EM c hc)
def mP(m:List UInt8):List UInt8:=m.takeWhile eX
def dL(m:List UInt8):List UInt8:=m.dropWhile eX
theorem Ap(m:List UInt8):(mP m).all eX=true:=by
 unfold mP
 induction m with
 | nil=>rfl
 | cons c m ih =>
  by_cases h:eX c=true
  .rw[List.takeWhile_cons_of_pos h,JJ,h,ih];rfl
  .rw[List.takeWhile_cons_of_neg h];rfl
theorem zO(m:List UInt8):mP m++dL m=m:=List.takeWhile_append_dropWhile
theorem I8(m:List UInt8):∀ c r,dL m=c::r->eX c=false:=by
 unfold dL
 induction m with
 | nil=>intro c r h;cases h
 | cons d m ih =>
  intro c r h;by_cases hd:eX d=true
  .rw[qaY hd] at h;exact ih c r h
  .rw[qaT hd] at h
   cases h
   simpa using hd
def Plain.octal(l:List UInt8):Int×Int :=
 let m:=l.dropWhile (·==32)
 if (dL m).all gX then
  (if bK 0 (mP m)<=9223372036854775807 then(((bK 0 (mP m):Nat):Int),0) else(0,11))
 else(0,10)
theorem FU(m:List UInt8)(h:(dL m).all gX=true):dM m=mP m:=by
 have e:=OT (mP m) (dL m) h;rw[zO] at e;rw[e,Us _ (Ap m)]
theorem XJ(m:List UInt8)(h:(dL m).all gX=false):(dM m).all eX=false:=by
 have e:=Px (mP m) (dL m) h;rw[zO] at e;rw[e,qcp];have hne:dM (dL m)≠[]:=by
  unfold dM;intro h0;have h1:(dL m).reverse.dropWhile gX=[]:=by simpa using h0
  exact xX _ (by rw[List.all_reverse];exact h) h1
 cases ht:dL m with
 | nil=>rw[ht] at hne;exact absurd Ry hne
 | cons c r =>
  have hc:=I8 m c r ht;have hpre:∃ s,dM (dL m)=c::s:=by
   have hsub:dM (dL m) <+: dL m:=by
    unfold dM;have:=List.dropWhile_suffix (l:=(dL m).reverse) gX;have h2:=List.reverse_prefix.2 this
    rwa [qcs] at h2
   rw[ht] at hsub hne ⊢
   cases hq:dM (c::r) with
   | nil=>exact absurd hq hne
   | cons x s =>
    rw[hq] at hsub;obtain⟨z,hz⟩:=hsub;rw[NJ] at hz;injection hz with h1 _;exact⟨s,by rw[h1]⟩
  obtain⟨s,hs⟩:=hpre;rw[ht] at hs;rw[hs,JJ,hc];simp
def Pj(c:UInt8):UInt8:=if c.toNat<128 then UInt8.ofNat (c.toNat+128) else c
theorem Xp(c:UInt8):(Pj c).toNat=if c.toNat<128 then c.toNat+128 else c.toNat:=by
 unfold Pj;have:=sD c;split
 .rw[qbR];omega
 .rfl
def sM(l:List UInt8):List UInt8:=l.set 0 (Pj (l.getD 0 0))
def kZ(v:Int)(n:Nat):Prop:=-64<=v / 256^(n - 1)/\v / 256^(n - 1)<=63
instance (v:Int)(n:Nat):Decidable (kZ v n):=by unfold kZ;infer_instance
def Plain.fA(v:Int)(n:Int):List UInt8×Int :=
 if n<2\/64<n then([],12) else if v<0 then([],11) else if v.toNat<8^(n.toNat - 1) then(bf v.toNat (n.toNat - 1)++[0],0) else([],11)
def Plain.yS(v:Int)(n:Int):List UInt8×Int :=
 if n<2\/64<n then([],12) else if n<9/\¬ kZ v n.toNat then([],11) else(sM (kD v n.toNat),0)
def Plain.put(v:Int)(n:Int):List UInt8×Int :=
 if (Plain.fA v n).2=0 then Plain.fA v n else Plain.yS v n
def Plain.number(l:List UInt8):Int×Int:=if 0<l.length/\128<=(l.getD 0 0).toNat then Plain.mW l else Plain.octal l
theorem Te(v n:Nat)(hn:1<=n)(hv:v<8^n)(h63:v<=9223372036854775807)(tail:List UInt8)(ht:tail.all gX=true):Plain.octal (bf v n++tail)=((v:Int),0):=by
 have hall:=C8 v n;obtain⟨m,rfl⟩:∃ m,n=m+1:=⟨n - 1,by omega⟩
 have hd:(bf v (m+1)++tail).dropWhile (·==32)=bf v (m+1)++tail:=by
  unfold bf;rw[cO,NJ,qaT];have:=(kN _).1 (vU v m);intro h;rw[beq_iff_eq] at h;rw[h] at this;simp at this
 have htl:dL (bf v (m+1)++tail)=tail:=by
  unfold dL;rw[nM _ _ hall]
  cases tail with
  | nil=>rfl
  | cons c r =>
   rw[JJ,fE] at ht;have:eX c=false:=by
    cases h:eX c with
    | false=>rfl
    | true=>rw[EM c h] at ht;cases ht.1
   exact qaT (by rw[this];exact Bool.false_ne_true)
 have hhd:mP (bf v (m+1)++tail)=bf v (m+1):=by
  have:=zO (bf v (m+1)++tail);rw[htl] at this;exact qb6 this
 unfold Plain.octal;simp only[hd,htl,hhd,ht,if_true,Ed,Nat.mod_eq_of_lt hv,h63]
theorem aaK(v:Int)(m:Nat)(h1:-64<=v / 256^m)(h2:v / 256^m<=63):128<=(Pj (mO v m)).toNat/\iK (Pj (mO v m))=v / 256^m:=by
 have hb:=Al v m;have ht:=Xp (mO v m);generalize mO v m=c at *
 generalize v / 256^m=t at *
 have hc:=sD c;rcases Int.lt_or_le t 0 with h|h
 .have e:t%256=t+256:=by omega
  rw[e] at hb;rw[if_neg (by omega)] at ht;refine⟨by omega,?_⟩;unfold iK;rw[if_pos (by omega)];omega
 .have e:t%256=t:=by omega
  rw[e] at hb;rw[if_pos (by omega)] at ht;refine⟨by omega,?_⟩;unfold iK;rw[if_neg (by omega)];omega
theorem KZ(v:Int)(n:Nat)(hn:1<=n)(hf:kZ v n)(h63:iF v=true):Plain.mW (sM (kD v n))=(v,0)/\0<(sM (kD v n)).length/\128<=((sM (kD v n)).getD 0 0).toNat:=by
 obtain⟨m,rfl⟩:∃ m,n=m+1:=⟨n - 1,by omega⟩
 obtain⟨h1,h2⟩:=hf;rw[Nat.add_sub_cancel] at h1 h2;obtain⟨h3,h4⟩:=aaK v m h1 h2;have e:sM (kD v (m+1))=Pj (mO v m)::kD v m:=by
  unfold sM kD;rw[cO];rfl
 rw[e];refine⟨?_,by simp,h3⟩;show(if _ then _ else _)=_;have hv:dx (iK (Pj (mO v m))) (kD v m)=v:=by
  rw[h4,qA,ES,Cr];have:=Int.mul_ediv_add_emod v (256^m);rw[Int.mul_comm];exact this
 rw[if_neg (by omega),hv,if_pos h63]
theorem R3(v:Int)(n:Nat)(h:9<=n)(h63:iF v=true):kZ v n:=by
 rw[gM] at h63;have hp:(256:Int)^8<=256^(n - 1):=by
  have h1:(256:Nat)^8<=256^(n - 1):=qcr (by decide) (by omega);have h2:(((256:Nat)^8:Nat):Int)<=((256^(n - 1):Nat):Int):=Int.ofNat_le.2 h1;rw[Int.natCast_pow,Int.natCast_pow] at h2;exact h2
 have h8:(256:Int)^8=18446744073709551616:=by rfl
 rw[h8] at hp;unfold kZ;generalize (256:Int)^(n - 1)=p at *
 constructor
 .have:-1<=v / p:=by
   rw[Int.le_ediv_iff_mul_le (by omega)];omega
  omega
 .have:v / p<1:=by
   rw[Int.ediv_lt_iff_lt_mul (by omega)];omega
  omega
theorem sJ(v n:Int):((n<2\/64<n)/\Plain.fA v n=([],12))\/(2<=n/\n<=64/\(v<0\/¬ v.toNat<8^(n.toNat - 1))/\Plain.fA v n=([],11))\/(2<=n/\n<=64/\0<=v/\v.toNat<8^(n.toNat - 1)/\Plain.fA v n=(bf v.toNat (n.toNat - 1)++[0],0)):=by
 unfold Plain.fA;by_cases h1:n<2\/64<n
 .exact .inl ⟨h1,if_pos h1⟩
 .rw[if_neg h1];by_cases h2:v<0
  .exact .inr (.inl ⟨by omega,by omega,.inl h2,if_pos h2⟩)
  .rw[if_neg h2];by_cases h3:v.toNat<8^(n.toNat - 1)
   .exact .inr (.inr ⟨by omega,by omega,by omega,h3,if_pos h3⟩)
   .exact .inr (.inl ⟨by omega,by omega,.inr h3,if_neg h3⟩)
theorem IV(v n:Int):((n<2\/64<n)/\Plain.yS v n=([],12))\/(2<=n/\n<9/\¬ kZ v n.toNat/\Plain.yS v n=([],11))\/(2<=n/\n<=64/\(n<9->kZ v n.toNat)/\Plain.yS v n=(sM (kD v n.toNat),0)):=by
 unfold Plain.yS;by_cases h1:n<2\/64<n
 .exact .inl ⟨h1,if_pos h1⟩
 .rw[if_neg h1];by_cases h3:n<9/\¬ kZ v n.toNat
  .exact .inr (.inl ⟨by omega,h3.1,h3.2,if_pos h3⟩)
  .exact .inr (.inr ⟨by omega,by omega,fun h9=>qba fun hc=>h3 ⟨h9,hc⟩,if_neg h3⟩)
theorem XF(v n:Int)(h63:iF v=true)(h:(Plain.put v n).2=0):Plain.number (Plain.put v n).1=(v,0)/\((Plain.put v n).1.length:Int)=n:=by
 have hI:=h63;rw[gM] at hI;unfold Plain.put at *
 rcases sJ v n with⟨h1,e⟩|⟨h1,h2,h3,e⟩|⟨h1,h2,h3,h4,e⟩
 .have e2:Plain.yS v n=([],12):=if_pos h1;rw[e,if_neg (by decide),e2] at h
  cases h
 .rw[e,if_neg (by decide)] at h ⊢;rcases IV v n with⟨g1,f⟩|⟨g1,g2,g3,f⟩|⟨g1,g2,g3,f⟩
  .omega
  .rw[f] at h;cases h
  .rw[f];have hf:kZ v n.toNat:=by
    by_cases h9:n<9
    .exact g3 h9
    .exact R3 v n.toNat (by omega) h63
   obtain⟨a,b,c⟩:=KZ v n.toNat (by omega) hf h63;refine⟨?_,by simp only[sM,List.length_set,Cr];omega⟩;unfold Plain.number;rw[if_pos ⟨b,c⟩,a]
 .rw[e,if_pos rfl];have hlen:(bf v.toNat (n.toNat - 1)).length=n.toNat - 1:=cu _ _;have hg:(bf v.toNat (n.toNat - 1)++[0]).getD 0 0=iQ v.toNat (n.toNat - 1 - 1):=by
   have:=Aw (iQ v.toNat) (n.toNat - 1) 0 (by omega);rw[Nat.sub_zero] at this;rw[<-this];unfold bf at hlen ⊢;simp[List.getD,qbm,hlen,show 0<n.toNat - 1 by omega]
  have hod:=(kN _).1 (vU v.toNat (n.toNat - 1 - 1));refine⟨?_,by simp only[vG,hlen,qcn];omega⟩;unfold Plain.number;rw[if_neg (by rw[hg];omega),Te v.toNat (n.toNat - 1) (by omega) h4 (by omega) [0] (by decide)];rw[Int.toNat_of_nonneg (by omega)]
def Ju(b:UInt8):Int:=if b.toNat<128 then(b.toNat:Int) else(b.toNat:Int) - 256
theorem V5(b:UInt8):-128<=Ju b/\Ju b<=127:=by unfold Ju;have:=sD b;split <;> omega
def kH(f:UInt8->Int)(l:List UInt8):Int:=l.foldl (fun s b=>s+f b) 0
theorem qG(f:UInt8->Int):∀ (l:List UInt8)(s:Int),l.foldl (fun s b=>s+f b) s=s+kH f l
 | [],s=>by simp[kH]
 | b::l,s=>by
  have e:kH f (b::l)=f b+kH f l:=by
   show(b::l).foldl (fun s b=>s+f b) 0=_;rw[Xu,qG f l (0+f b)];omega
  rw[Xu,qG f l (s+f b),e];omega
theorem xR(f:UInt8->Int):kH f []=0:=rfl
theorem Dj(f:UInt8->Int)(a b:List UInt8):kH f (a++b)=kH f a+kH f b:=by
 show(a++b).foldl (fun s b=>s+f b) 0=_;rw[qbd,qG];rfl
theorem tq(f:UInt8->Int)(c:UInt8)(l:List UInt8):kH f (c::l)=f c+kH f l:=by
 show(c::l).foldl (fun s b=>s+f b) 0=_;rw[Xu,qG];omega
theorem F3(f:UInt8->Int)(l:List UInt8)(k:Nat)(h:k<l.length):kH f (l.take (k+1))=kH f (l.take k)+f (l.getD k 0):=by
 have hg:l.getD k 0=l[k]:=by simp[List.getD,kM h]
 rw[Nh h,Dj,tq,xR,hg];omega
theorem Bn(f:UInt8->Int)(h:∀ b,-256<=f b/\f b<=255):∀ (l:List UInt8),-256*(l.length:Int)<=kH f l/\kH f l<=255*(l.length:Int)
 | []=>by rw[xR];simp
 | c::l=>by
  have ih:=Bn f h l;have:=h c;rw[tq,oH];omega
theorem rG(f:UInt8->Int)(h:∀ b,0<=f b):∀ (l:List UInt8),0<=kH f l
 | []=>by rw[xR];simp
 | c::l=>by
  have ih:=rG f h l;have:=h c;rw[tq];omega
theorem Kt(f:UInt8->Int)(c:UInt8):∀ n:Nat,kH f (List.replicate n c)=n*f c
 | 0=>by simp[xR]
 | n+1=>by
  rw[List.replicate_succ,tq,Kt f c n,Int.natCast_succ,Int.add_mul];omega
def uby(b:UInt8):Int:=(b.toNat:Int)
theorem IK(b:UInt8):0<=uby b/\uby b<=255:=by unfold uby;have:=sD b;omega
def l9(l:List UInt8)(k:Nat):List UInt8:=l.take 148++List.replicate k 32++l.drop (148+k)
def blank(l:List UInt8):List UInt8:=l9 l 8
theorem LJ(l:List UInt8):l9 l 0=l:=by unfold l9;rw[List.replicate_zero,Qq,R4,qbh]
theorem P7(l:List UInt8)(k:Nat)(h:148+k<=l.length):(l9 l k).length=l.length:=by
 unfold l9;rw[vG,vG,Xm,zQ,zW];omega
theorem OM(l:List UInt8)(k:Nat)(h:148+k<l.length):(l9 l k).set (148+k) 32=l9 l (k+1):=by
 have hl:(l.take 148++List.replicate k (32:UInt8)).length=148+k:=by rw[vG,Xm,zQ];omega
 unfold l9;rw[qck _ _ (by omega),hl,Nat.sub_self,qbJ h,dY,List.replicate_succ',show 148+(k+1)=148+k+1 by omega];simp
def Plain.sum(f:UInt8->Int)(l:List UInt8):Int:=kH f (l.take 148)+8*f 32+kH f (l.drop 156)
theorem GD(f:UInt8->Int)(l:List UInt8):kH f (blank l)=Plain.sum f l:=by
 unfold blank l9 Plain.sum;rw[Dj,Dj,Kt];rfl
theorem DI(f:UInt8->Int)(hf:∀ b,-256<=f b/\f b<=255)(l:List UInt8)(k:Nat)(h:k<=512):-200000<=kH f (l.take k)/\kH f (l.take k)<=200000:=by
 have h1:=Bn f hf (l.take k);have l1:(l.take k).length<=512:=by rw[zQ];omega
 omega
theorem DV(b:UInt8):-256<=uby b/\uby b<=255:=by have:=IK b;omega
theorem Xw(b:UInt8):-256<=Ju b/\Ju b<=255:=by have:=V5 b;omega
theorem Np(l:List UInt8)(h:l.length=512):256<=Plain.sum uby l/\Plain.sum uby l<=130560:=by
 have h1:=Bn uby DV (l.take 148);have h2:=Bn uby DV (l.drop 156);have h3:=rG uby (fun b=>(IK b).1) (l.take 148);have h4:=rG uby (fun b=>(IK b).1) (l.drop 156);have l1:(l.take 148).length<=148:=by rw[zQ];omega
 have l2:(l.drop 156).length=356:=by rw[zW];omega
 have h5:uby 32=32:=rfl;unfold Plain.sum;rw[h5];omega
def nO(l:List UInt8):List UInt8:=(l.take 156).drop 148
def Plain.sealed(l:List UInt8):Bool:=decide ((Plain.number (nO l)).2=0/\((Plain.number (nO l)).1=Plain.sum uby l\/(Plain.number (nO l)).1=Plain.sum Ju l))
def Plain.seal(l:List UInt8):List UInt8:=l.take 148++(bf (Plain.sum uby l).toNat 6++[0,32])++l.drop 156
theorem Kc(n:Nat):(bf n 6++[0,32]).length=8:=by rw[vG];unfold bf;rw[cu];rfl
theorem DY(l:List UInt8)(h:l.length=512):(Plain.seal l).length=512:=by
 unfold Plain.seal;rw[vG,vG,Kc,zQ,zW];omega
theorem wJ(a:Option Addr)(n c:Nat)(l:List UInt8)(cv:Int)(w:World)(h:Bs w a n c l):Calls qp0 183 #[.slice a n c,.int .u8 cv] w fun e w'=>e=.returned (.int .i64 (Lib.indexByte l cv.toNat.toUInt8))/\w=w':=by
 cases a with
 | none =>
  obtain⟨rfl,rfl⟩:=h.2.2.2.2 rfl;have:l=[]:=O8 h.len;subst this;exact(Tryz.bytes_IndexByte_nil cv w).mono fun e w' ⟨he,hw⟩=>⟨he,hw.symm⟩
 | some x =>
  have hb:Lib.bytesOf (l.map fun b=>(b.toNat:Int))=l:=by simp[Lib.bytesOf,Function.comp_def]
  refine(Tryz.bytes_IndexByte_at x n c (l.map fun b=>(b.toNat:Int)) cv w (by simpa using h.len) (fun i hi=>?_)).mono fun e w' ⟨he,hw⟩=>⟨by rw[hb] at he;exact he,hw.symm⟩
  have hl:=h.len;have hil:i<l.length:=by omega
  obtain⟨y,hy,hc⟩:=h.2.2.2.1 i (jJ l[i]) (by simp[kM hil])
  cases hy
  rw[hc];simp[List.getD,kM hil,jJ]
namespace Plain
def text(l:List UInt8):List UInt8:=l.takeWhile (fun b=>b != 0)
theorem sU(l:List UInt8):(text l).length<=l.length:=by
 induction l with
 | nil=>simp[text]
 | cons b l ih=>by_cases h:b=0 <;> simp_all [text]
theorem Td(l:List UInt8):l.take (text l).length=text l:=by
 induction l with
 | nil=>simp[text]
 | cons b l ih=>by_cases h:b=0 <;> simp_all [text]
theorem RZ(b:UInt8)(l:List UInt8)(hb:¬ b=0):text (b::l)=b::text l:=by simp[text,hb]
theorem SH(b:UInt8)(l:List UInt8)(hb:b=0):text (b::l)=[]:=by simp[text,hb]
theorem BM(l:List UInt8):Lib.indexByte l 0=if (text l).length=l.length then -1 else((text l).length:Int):=by
 induction l with
 | nil=>simp[text,Lib.indexByte]
 | cons b l ih =>
  by_cases hb:b=0
  .rw[SH b l hb];simp[hb,Lib.indexByte]
  .have h1:(b==0)=false:=by simpa using hb
   rw[RZ b l hb];simp only[Lib.indexByte,h1,ih,jI,if_false,oH,Nat.add_right_cancel_iff];by_cases h3:(text l).length=l.length
   .rw[if_pos h3,if_pos h3];rfl
   .have h4:(((text l).length:Int)==-1)=false:=by rw[beq_eq_false_iff_ne];omega
    rw[if_neg h3,if_neg h3,h4];simp
end Plain
theorem pO(a:Option Addr)(n c:Nat)(l:List UInt8)(w:World)(h:Bs w a n c l):Calls qp0 146 #[.slice a n c] w fun e w'=>e=.returned (.string ⟨(Plain.text l).toArray⟩)/\w=w':=by
 have hl:=h.len;have hi:=Plain.BM l;have h1:=Plain.sU l;have h2:=Plain.Td l;have h0:(0:Int).toNat.toUInt8=0:=rfl;generalize Plain.text l=t at *
 by_cases hz:t.length=l.length
 .rw[if_pos hz] at hi;have ht:t=l:=by rw[<-h2,hz,qbA]
  clear h1 h2 hz;subst ht;have HI:=ah hi;have HL:=ah hl;have H0:=ah h0;clear hi hl h0;go_enter func146,ntmps146;go_wp2_with (first|(go_at_call 183;refine(wJ _ _ _ _ _ _ h).mono ?_;rintro e w1 ⟨rfl,rfl⟩;rw[H0.out,HI.out])|(with_reducible refine aT rfl _ _ _ rfl underlying22 underlying5 underlying9 rfl h ?_))
  go_ret;exact⟨rfl,rfl⟩
 .rw[if_neg hz] at hi;have HI:=ah hi;have HL:=ah hl;have H0:=ah h0;have H2:=ah h2;clear hi hl h0 h2;have hm:t.length<=n:=by rw[<-HL.out];exact h1
  go_enter func146,ntmps146;go_wp2_with (first|(go_at_call 183;refine(wJ _ _ _ _ _ _ h).mono ?_;rintro e w1 ⟨rfl,rfl⟩;rw[H0.out,HI.out])|(with_reducible first|refine gI rfl _ _ _ _ rfl underlying22 (by kernel_rfl) rfl h 0 t.length .i64 .i64 rfl rfl (by omega) hm ?_;intro a2 hb2|refine aT rfl _ _ _ rfl underlying22 underlying5 underlying9 rfl hb2 ?_))
  go_ret;refine⟨aat ?_,rfl⟩;rw[H2.out]
namespace Plain
def stroke(l:List UInt8):Int:=Lib.lastIndexByte ⟨(l.take (min 156 (l.length - 1))).toArray⟩ 47
def split(l:List UInt8):List UInt8×List UInt8×Int :=
 if l=[] then([],[],43)
 else if 0<=Lib.indexByte l 0 then([],[],43)
 else if l.length<=100 then([],l,0)
 else if stroke l<1 then([],[],43)
 else if 100<(l.length:Int)-stroke l - 1 then([],[],43)
 else(l.take (stroke l).toNat,l.drop ((stroke l).toNat+1),0)
theorem zV(l:List UInt8):(stroke l=-1/\∀ j,j<min 156 (l.length - 1)->l.getD j 0≠47) \/ (∃ i:Nat,i<min 156 (l.length - 1)/\stroke l=i/\l.getD i 0=47/\∀ j,i<j->j<min 156 (l.length - 1)->l.getD j 0≠47):=by
 have hsz:((⟨(l.take (min 156 (l.length - 1))).toArray⟩:ByteArray)).size=min 156 (l.length - 1):=by simp[ByteArray.size]
 have hat:∀ j,j<min 156 (l.length - 1)->((l.take (min 156 (l.length - 1))).toArray[j]!)=l.getD j 0:=by
  intro j hj;have hjl:j<l.length:=by omega
  have h1:j<(l.take (min 156 (l.length - 1))).length:=by simp;omega
  simp[List.getD,kM hjl,VX,hj]
 have h:=Lib.lastIdx_spec ⟨(l.take (min 156 (l.length - 1))).toArray⟩ 47 (min 156 (l.length - 1));have e:Lib.lastIdx ⟨(l.take (min 156 (l.length - 1))).toArray⟩ 47 (min 156 (l.length - 1))=stroke l:=by rw[stroke,Lib.lastIndexByte,hsz]
 rw[e] at h;have h47:∀ b:UInt8,((b.toNat:Int)=47)↔b=47:=fun b=>⟨fun hb=>VL.1 (by simpa using(by omega:b.toNat=47)),fun hb=>by subst hb;rfl⟩
 rcases h with⟨h1,h2⟩|⟨i,hi,h1,h2,h3⟩
 .exact .inl ⟨h1,fun j hj hc=>h2 j hj (by rw[hat j hj];exact(h47 _).2 hc)⟩
 .exact .inr ⟨i,hi,h1,(h47 _).1 (by rw[<-hat i hi];exact h2),fun j hj hj2 hc=>h3 j hj hj2 (by rw[hat j hj2];exact(h47 _).2 hc)⟩
end Plain
def splitV(r:List UInt8×List UInt8×Int):Value:=.tuple #[.string ⟨r.1.toArray⟩,.string ⟨r.2.1.toArray⟩,.int .i64 r.2.2]
theorem SC(l:List UInt8)(w:World)(hl:l.length<=140737488351232):Calls qp0 67 #[.string ⟨l.toArray⟩] w fun e w'=>e=.returned (splitV (Plain.split l))/\Below w.heap.size w w':=by
 have h0:(0:Int).toNat.toUInt8=0:=rfl;have H0:=ah h0;clear h0;unfold Plain.split
 by_cases c1:l=[]
 .subst c1;rw[if_pos rfl];go_enter func67,ntmps67;go_wp2
  go_ret3;exact⟨rfl,Below.refl _ _⟩
 .rw[if_neg c1];have Zw:l.isEmpty=false:=by simpa using c1
  by_cases c2:0<=Lib.indexByte l 0
  .rw[if_pos c2];generalize hi:Lib.indexByte l 0=i at c2;have HI:=ah hi;clear hi;go_enter func67,ntmps67;go_wp2_with (go_at_call 87;refine(Tryz.strings_IndexByte _ _ _).mono ?_;rintro e w1 ⟨rfl,hw⟩;obtain rfl:=hw.symm;rw[H0.out,HI.out])
   go_ret3;exact⟨rfl,Below.refl _ _⟩
  .rw[if_neg c2];generalize hi:Lib.indexByte l 0=i at c2;have HI:=ah hi;clear hi;have c2':i<0:=by omega
   clear c2;by_cases c3:l.length<=100
   .rw[if_pos c3];go_enter func67,ntmps67;go_wp2_with (go_at_call 87;refine(Tryz.strings_IndexByte _ _ _).mono ?_;rintro e w1 ⟨rfl,hw⟩;obtain rfl:=hw.symm;rw[H0.out,HI.out])
    go_ret3;exact⟨rfl,Below.refl _ _⟩
   .rw[if_neg c3];have hst:=Plain.zV l;have hs1:Plain.stroke l<156/\Plain.stroke l<l.length - 1/\-1<=Plain.stroke l:=by rcases hst with⟨h,_⟩|⟨i,hi,h,_⟩ <;> omega
    clear hst;have HS:Hid (Lib.lastIndexByte ⟨(l.take (min 156 (l.length - 1))).toArray⟩ 47=Plain.stroke l):=rfl;generalize Plain.stroke l=s at *
    have HE:Hid (((⟨l.toArray⟩:ByteArray).extract 0 (min 156 ((l.length:Int) - 1)).toNat)=⟨(l.take (min 156 (l.length - 1))).toArray⟩):=by
     show _=_;rw[ByteArray.extract_mk,show(min 156 ((l.length:Int) - 1)).toNat=min 156 (l.length - 1) by omega];simp
    have hz:((⟨(l.take (min 156 (l.length - 1))).toArray⟩:ByteArray)).size<4611686018427387904:=by simp[ByteArray.size];omega
    by_cases c4:s<1
    .rw[if_pos c4];go_enter func67,ntmps67;go_wp2_with (go_at_call 87;refine(Tryz.strings_IndexByte _ _ _).mono ?_;rintro e w1 ⟨rfl,hw⟩;obtain rfl:=hw.symm;rw[H0.out,HI.out])
     rw[HE.out];refine(Tryz.strings_LastIndexByte _ _ hz _).mono ?_;rintro e w1 ⟨rfl,hw⟩;obtain rfl:=hw.symm;rw[HS.out];generalize (⟨(l.take (min 156 (l.length - 1))).toArray⟩:ByteArray)=hd at *
     go_wp2
     go_ret3;exact⟨rfl,Below.refl _ _⟩
    .rw[if_neg c4];obtain⟨k,rfl⟩:=Xq (show 0<=s by omega);by_cases c5:100<(l.length:Int)-k - 1
     .rw[if_pos c5];go_enter func67,ntmps67;go_wp2_with (go_at_call 87;refine(Tryz.strings_IndexByte _ _ _).mono ?_;rintro e w1 ⟨rfl,hw⟩;obtain rfl:=hw.symm;rw[H0.out,HI.out])
      rw[HE.out];refine(Tryz.strings_LastIndexByte _ _ hz _).mono ?_;rintro e w1 ⟨rfl,hw⟩;obtain rfl:=hw.symm;rw[HS.out];generalize (⟨(l.take (min 156 (l.length - 1))).toArray⟩:ByteArray)=hd at *
      go_wp2
      go_ret3;exact⟨rfl,Below.refl _ _⟩
     .rw[if_neg c5];go_enter func67,ntmps67;go_wp2_with (go_at_call 87;refine(Tryz.strings_IndexByte _ _ _).mono ?_;rintro e w1 ⟨rfl,hw⟩;obtain rfl:=hw.symm;rw[H0.out,HI.out])
      rw[HE.out];refine(Tryz.strings_LastIndexByte _ _ hz _).mono ?_;rintro e w1 ⟨rfl,hw⟩;obtain rfl:=hw.symm;rw[HS.out];generalize (⟨(l.take (min 156 (l.length - 1))).toArray⟩:ByteArray)=hd at *
      go_wp2
      go_quiet (fail)
      go_wp2
      go_ret3;refine⟨?_,Below.drewN (Below.refl _ _) _⟩;have e1:((⟨l.toArray⟩:ByteArray).extract 0 k)=⟨(l.take k).toArray⟩:=by rw[ByteArray.extract_mk];simp
      have e2:((⟨l.toArray⟩:ByteArray).extract (k+1) l.length)=⟨(l.drop (k+1)).toArray⟩:=by
       rw[ByteArray.extract_mk,MU (by simp)]
      simp[splitV,e1,e2]
namespace Plain
theorem indexByte_none(l:List UInt8)(h:Lib.indexByte l 0<0):∀ j,j<l.length->l.getD j 0≠0:=by
 induction l with
 | nil=>simp
 | cons b l ih =>
  intro j hj;unfold Lib.indexByte at h;split at h
  .omega
  .rename_i hb
   cases j with
   | zero=>simpa using hb
   | succ j =>
    have hl:Lib.indexByte l 0<0:=by
     split at h
     .rename_i h1;have:=eq_of_beq h1;omega
     .omega
    simpa using ih hl j (by simpa using hj)
theorem indexByte_some(l:List UInt8)(h:0<=Lib.indexByte l 0):∃ j,j<l.length/\l.getD j 0=0:=by
 induction l with
 | nil=>simp[Lib.indexByte] at h
 | cons b l ih =>
  unfold Lib.indexByte at h;split at h
  .rename_i hb;exact⟨0,by simp,by simpa using hb⟩
  .split at h
   .omega
   .rename_i h1
    have hge:0<=Lib.indexByte l 0:=by
     have hm:∀ m:List UInt8,-1<=Lib.indexByte m 0:=by
      intro m
      induction m with
      | nil=>simp[Lib.indexByte]
      | cons c m ihm=>unfold Lib.indexByte;split;omega;split <;> omega
     have:=hm l;have:Lib.indexByte l 0≠-1:=by simpa using h1
     omega
    obtain⟨j,hj,hz⟩:=ih hge;exact⟨j+1,by simpa using hj,by simpa using hz⟩
def Well(l p s:List UInt8):Prop:=0<s.length/\s.length<=100/\p.length<=155/\((p=[]/\s=l)\/(p≠[]/\p++[47]++s=l/\100<l.length))
def Ill(l:List UInt8):Prop:=(∃ j,j<l.length/\l.getD j 0=0) \/ ((∀ i,1<=i->i+1<l.length->l.getD i 0=47->i<=155->l.length - 1-i<=100->False)/\(l.length=0\/100<l.length))
theorem zZ(l:List UInt8):(∃ p s,split l=(p,s,0)/\Well l p s)\/(split l=([],[],43)/\Ill l):=by
 unfold split
 by_cases c1:l=[]
 .rw[if_pos c1];subst c1;exact .inr ⟨rfl,.inr ⟨fun i _ h=>by simp at h,.inl rfl⟩⟩
 .rw[if_neg c1];have hpos:0<l.length:=qbQ.2 c1;by_cases c2:0<=Lib.indexByte l 0
  .rw[if_pos c2];exact .inr ⟨rfl,.inl (indexByte_some l c2)⟩
  .rw[if_neg c2];by_cases c3:l.length<=100
   .rw[if_pos c3];exact .inl ⟨[],l,rfl,hpos,c3,by simp,.inl ⟨rfl,rfl⟩⟩
   .rw[if_neg c3];have hst:=zV l;by_cases c4:stroke l<1
    .rw[if_pos c4];refine .inr ⟨rfl,.inr ⟨fun i h1 h2 h3 h4 h5=>?_,.inr (by omega)⟩⟩;rcases hst with⟨_,hn⟩|⟨k,hk,hs,_,hn⟩
     .exact hn i (by omega) h3
     .exact hn i (by omega) (by omega) h3
    .rw[if_neg c4];by_cases c5:100<(l.length:Int)-stroke l - 1
     .rw[if_pos c5];refine .inr ⟨rfl,.inr ⟨fun i h1 h2 h3 h4 h5=>?_,.inr (by omega)⟩⟩;rcases hst with⟨hs,hn⟩|⟨k,hk,hs,_,hn⟩
      .omega
      .exact hn i (by omega) (by omega) h3
     .rw[if_neg c5];rcases hst with⟨hs,hn⟩|⟨k,hk,hs,h47,hn⟩
      .omega
      .rw[hs] at c4 c5 ⊢;have hkl:k<l.length:=by omega
       simp only[Int.toNat_natCast];refine .inl ⟨_,_,rfl,by rw[zW];omega,by rw[zW];omega,by rw[zQ];omega,.inr ⟨?_,?_,by omega⟩⟩
       .intro h0;rcases List.take_eq_nil_iff.1 h0 with h|h;omega;subst h;simp at hkl
       .have e:l.getD k 0=l[k]:=by simp[List.getD,kM hkl]
        rw[e] at h47;have:=Nh hkl;rw[<-h47,<-this,qbh]
end Plain
structure Hd where
 name:List UInt8
 link:List UInt8
 mode:Int
 uid:Int
 gid:Int
 size:Int
 mtime:Int
 ty:UInt8
 user:List UInt8
 group:List UInt8
 major:Int
 minor:Int
 form:Int
def Hd.zero:Hd:=⟨[],[],0,0,0,0,0,0,[],[],0,0,0⟩
def eH(l:List UInt8)(s e:Nat):List UInt8:=(l.take e).drop s
def rQ(p:Int×Int)(lo hi:Int):Bool:=decide (p.2=0/\lo<=p.1/\p.1<=hi)
def dB:List UInt8:=[117,115,116,97,114,0,48,48]
def Hr:List UInt8:=[117,115,116,97,114,32,32,0]
def bN(l:List UInt8):Int:=if eH l 257 265=dB then 2 else if eH l 257 265=Hr then 3 else 1
def fB(l:List UInt8):UInt8:=if l.getD 156 0=0\/l.getD 156 0=55 then 48 else l.getD 156 0
def om(l:List UInt8):Bool:=decide (bN l≠1/\(fB l=51\/fB l=52))
def mD(l:List UInt8)(s e:Nat):Int×Int:=Plain.number (eH l s e)
def nK(l:List UInt8):Bool :=rQ (mD l 100 108) 0 9223372036854775807&&rQ (mD l 108 116) 0 2147483647&&rQ (mD l 116 124) 0 2147483647&&rQ (mD l 124 136) 0 9223372036854775807&&rQ (mD l 136 148) (-1099511627776) 1099511627776 &&
 (!om l||(rQ (mD l 329 337) 0 9223372036854775807&&rQ (mD l 337 345) 0 9223372036854775807))
def nameOf(l:List UInt8):List UInt8 :=
 if bN l=2/\Plain.text (eH l 345 500)≠[] then Plain.text (eH l 345 500)++47::Plain.text (eH l 0 100) else Plain.text (eH l 0 100)
def NQ(l:List UInt8):Hd :=⟨nameOf l,Plain.text (eH l 157 257),(mD l 100 108).1,(mD l 108 116).1,(mD l 116 124).1,if 49<=(fB l).toNat/\(fB l).toNat<=54 then 0 else(mD l 124 136).1,(mD l 136 148).1,fB l,
  if bN l=1 then[] else Plain.text (eH l 265 297),if bN l=1 then[] else Plain.text (eH l 297 329),if om l=true then(mD l 329 337).1 else 0,if om l=true then(mD l 337 345).1 else 0,bN l⟩
def Plain.hread(l:List UInt8):Hd×Int :=
 if l=cZ then(Hd.zero,40) else if Plain.sealed l=false then(Hd.zero,41) else if nK l=false then(Hd.zero,42) else(NQ l,0)
def lay(l:List UInt8)(f:Nat)(t:List UInt8):List UInt8:=l.take f++t++l.drop (f+t.length)
theorem gF(l:List UInt8)(f:Nat)(t:List UInt8)(h:f+t.length<=l.length):(lay l f t).length=l.length:=by
 unfold lay;rw[vG,vG,zQ,zW];omega
theorem tQ(l:List UInt8)(s e:Nat)(h:e<=l.length):(eH l s e).length=e-s:=by unfold eH;rw[zW,zQ];omega
theorem Vk(l:List UInt8)(f:Nat)(t:List UInt8)(h:f+t.length<=l.length)(k:Nat):(lay l f t).getD k 0=if f<=k/\k<f+t.length then t.getD (k-f) 0 else l.getD k 0:=by
 have hf:(l.take f).length=f:=by rw[zQ];omega
 unfold lay;by_cases h1:k<f
 .rw[if_neg (by omega)];simp only[List.getD];rw[qbm (by rw[vG,hf];omega),qbm (by rw[hf];exact h1),VX,if_pos h1]
 .by_cases h2:k<f+t.length
  .rw[if_pos ⟨by omega,h2⟩];simp only[List.getD];rw[qbm (by rw[vG,hf];omega),qb0 (by omega),hf]
  .rw[if_neg (by omega)];simp only[List.getD];rw[qb0 (by rw[vG,hf];omega),vG,hf,qbE,show f+t.length+(k-(f+t.length))=k by omega]
theorem ZX(l:List UInt8)(k:Nat)(c:UInt8)(h:k<l.length):l.set k c=lay l k [c]:=by
 have h':k+[c].length<=l.length:=h;refine EW (by rw[gF _ _ _ h'];simp) fun j hj=>?_
 rw[Vk _ _ _ h'];by_cases e:j=k
 .subst e;simp[List.getD,h]
 .rw[if_neg (by simp;omega)];simp[List.getD,List.getElem?_set,show ¬ k=j from fun h=>e h.symm]
def pad(n:Nat)(t:List UInt8):List UInt8:=t++(List.replicate n 0).drop t.length
theorem abz(n:Nat)(t:List UInt8)(h:t.length<=n):(pad n t).length=n:=by unfold pad;rw[vG,zW,Xm];omega
theorem aaR(n:Nat):pad n []=List.replicate n 0:=by unfold pad;simp
def ig:List Nat->List (List UInt8)->List UInt8
 | n::W,t::T=>pad n t++ig W T
 | _,_=>[]
def Fit:List Nat->List (List UInt8)->Prop
 | n::W,t::T=>t.length<=n/\Fit W T
 | [],[]=>True
 | _,_=>False
theorem abC(a r:List UInt8)(f:Nat)(t:List UInt8):lay (a++r) (a.length+f) t=a++lay r f t:=by
 unfold lay;rw[List.take_append,List.drop_append,MU (by omega),qa9 (by omega),show a.length+f-a.length=f by omega,show a.length+f+t.length-a.length=f+t.length by omega];simp
theorem gD:∀ (W:List Nat)(T:List (List UInt8))(k:Nat)(t:List UInt8),Fit W T->T[k]? = some []->t.length<=W.getD k 0->lay (ig W T) ((W.take k).sum) t=ig W (T.set k t)/\Fit W (T.set k t)
 | [],[],k,t,_,h,_=>by simp at h
 | [],_::_,_,_,h,_,_=>h.elim
 | _::_,[],_,_,h,_,_=>h.elim
 | n::W,u::T,0,t,hF,h,ht=>by
  simp only[List.getElem?_cons_zero,Ba] at h;subst h;simp only[List.getD_cons_zero] at ht;refine⟨?_,ht,hF.2⟩;simp only[dY,qct,List.sum_nil];unfold ig lay;rw[aaR,qct,yG,lU,List.drop_append_of_le_length (by rw[Xm];exact ht)];unfold pad;rw[qbI]
 | n::W,u::T,k+1,t,hF,h,ht=>by
  simp only[List.getElem?_cons_succ] at h;obtain⟨e,hF2⟩:=gD W T k t hF.2 h (by simpa using ht);refine⟨?_,hF.1,hF2⟩;simp only[qzs,List.take_succ_cons,List.sum_cons];unfold ig;rw[show n+(W.take k).sum=(pad n u).length+(W.take k).sum by rw[abz n u hF.1],abC,e]
def jG:List Nat:=[100,8,8,8,12,12,8,1,100,8,32,32,8,8,155,12]
theorem ahd:Fit jG [[],[],[],[],[],[],[],[],[],[],[],[],[],[],[],[]]:=by simp[Fit,jG]
theorem aaH:cZ=ig jG [[],[],[],[],[],[],[],[],[],[],[],[],[],[],[],[]]:=by decide +kernel
theorem O7(r n0 n1 n2 n3 n4 n5 n6 link user group p:List UInt8)(ty:UInt8)(hr:r.length<=100)(h0:n0.length<=8)(h1:n1.length<=8)(h2:n2.length<=8)(h3:n3.length<=12)(h4:n4.length<=12)(h5:n5.length<=8)(h6:n6.length<=8)(hl:link.length<=100)(hu:user.length<=32)(hg:group.length<=32)(hp:p.length<=155):lay (lay (lay (lay (lay (lay (lay (lay (lay (lay (lay (lay (lay (lay cZ 100 n0) 108 n1) 116 n2) 124 n3) 136 n4) 329 n5) 337 n6) 0 r) 156 [ty]) 157 link) 257 dB) 265 user) 297 group) 345 p=ig jG [r,n0,n1,n2,n3,n4,[],[ty],link,dB,user,group,n5,n6,p,[]]:=by
 have f:=ahd;rw[aaH];have g:=gD jG [[],[],[],[],[],[],[],[],[],[],[],[],[],[],[],[]] 1 n0 f rfl h0;rw[show lay (ig jG [[],[],[],[],[],[],[],[],[],[],[],[],[],[],[],[]]) 100 n0=ig jG [[],n0,[],[],[],[],[],[],[],[],[],[],[],[],[],[]] from g.1]
 replace f:Fit jG [[],n0,[],[],[],[],[],[],[],[],[],[],[],[],[],[]]:=g.2
 clear g;have g:=gD jG [[],n0,[],[],[],[],[],[],[],[],[],[],[],[],[],[]] 2 n1 f rfl h1;rw[show lay (ig jG [[],n0,[],[],[],[],[],[],[],[],[],[],[],[],[],[]]) 108 n1=ig jG [[],n0,n1,[],[],[],[],[],[],[],[],[],[],[],[],[]] from g.1]
 replace f:Fit jG [[],n0,n1,[],[],[],[],[],[],[],[],[],[],[],[],[]]:=g.2
 clear g;have g:=gD jG [[],n0,n1,[],[],[],[],[],[],[],[],[],[],[],[],[]] 3 n2 f rfl h2;rw[show lay (ig jG [[],n0,n1,[],[],[],[],[],[],[],[],[],[],[],[],[]]) 116 n2=ig jG [[],n0,n1,n2,[],[],[],[],[],[],[],[],[],[],[],[]] from g.1]
 replace f:Fit jG [[],n0,n1,n2,[],[],[],[],[],[],[],[],[],[],[],[]]:=g.2
 clear g;have g:=gD jG [[],n0,n1,n2,[],[],[],[],[],[],[],[],[],[],[],[]] 4 n3 f rfl h3;rw[show lay (ig jG [[],n0,n1,n2,[],[],[],[],[],[],[],[],[],[],[],[]]) 124 n3=ig jG [[],n0,n1,n2,n3,[],[],[],[],[],[],[],[],[],[],[]] from g.1]
 replace f:Fit jG [[],n0,n1,n2,n3,[],[],[],[],[],[],[],[],[],[],[]]:=g.2
 clear g;have g:=gD jG [[],n0,n1,n2,n3,[],[],[],[],[],[],[],[],[],[],[]] 5 n4 f rfl h4;rw[show lay (ig jG [[],n0,n1,n2,n3,[],[],[],[],[],[],[],[],[],[],[]]) 136 n4=ig jG [[],n0,n1,n2,n3,n4,[],[],[],[],[],[],[],[],[],[]] from g.1]
 replace f:Fit jG [[],n0,n1,n2,n3,n4,[],[],[],[],[],[],[],[],[],[]]:=g.2
 clear g;have g:=gD jG [[],n0,n1,n2,n3,n4,[],[],[],[],[],[],[],[],[],[]] 12 n5 f rfl h5;rw[show lay (ig jG [[],n0,n1,n2,n3,n4,[],[],[],[],[],[],[],[],[],[]]) 329 n5=ig jG [[],n0,n1,n2,n3,n4,[],[],[],[],[],[],n5,[],[],[]] from g.1]
 replace f:Fit jG [[],n0,n1,n2,n3,n4,[],[],[],[],[],[],n5,[],[],[]]:=g.2
 clear g;have g:=gD jG [[],n0,n1,n2,n3,n4,[],[],[],[],[],[],n5,[],[],[]] 13 n6 f rfl h6;rw[show lay (ig jG [[],n0,n1,n2,n3,n4,[],[],[],[],[],[],n5,[],[],[]]) 337 n6=ig jG [[],n0,n1,n2,n3,n4,[],[],[],[],[],[],n5,n6,[],[]] from g.1]
 replace f:Fit jG [[],n0,n1,n2,n3,n4,[],[],[],[],[],[],n5,n6,[],[]]:=g.2
 clear g;have g:=gD jG [[],n0,n1,n2,n3,n4,[],[],[],[],[],[],n5,n6,[],[]] 0 r f rfl hr;rw[show lay (ig jG [[],n0,n1,n2,n3,n4,[],[],[],[],[],[],n5,n6,[],[]]) 0 r=ig jG [r,n0,n1,n2,n3,n4,[],[],[],[],[],[],n5,n6,[],[]] from g.1]
 replace f:Fit jG [r,n0,n1,n2,n3,n4,[],[],[],[],[],[],n5,n6,[],[]]:=g.2
 clear g;have g:=gD jG [r,n0,n1,n2,n3,n4,[],[],[],[],[],[],n5,n6,[],[]] 7 [ty] f rfl (by decide:1<=1);rw[show lay (ig jG [r,n0,n1,n2,n3,n4,[],[],[],[],[],[],n5,n6,[],[]]) 156 [ty]=ig jG [r,n0,n1,n2,n3,n4,[],[ty],[],[],[],[],n5,n6,[],[]] from g.1]
 replace f:Fit jG [r,n0,n1,n2,n3,n4,[],[ty],[],[],[],[],n5,n6,[],[]]:=g.2
 clear g;have g:=gD jG [r,n0,n1,n2,n3,n4,[],[ty],[],[],[],[],n5,n6,[],[]] 8 link f rfl hl;rw[show lay (ig jG [r,n0,n1,n2,n3,n4,[],[ty],[],[],[],[],n5,n6,[],[]]) 157 link=ig jG [r,n0,n1,n2,n3,n4,[],[ty],link,[],[],[],n5,n6,[],[]] from g.1]
 replace f:Fit jG [r,n0,n1,n2,n3,n4,[],[ty],link,[],[],[],n5,n6,[],[]]:=g.2
 clear g;have g:=gD jG [r,n0,n1,n2,n3,n4,[],[ty],link,[],[],[],n5,n6,[],[]] 9 dB f rfl (by decide:8<=8);rw[show lay (ig jG [r,n0,n1,n2,n3,n4,[],[ty],link,[],[],[],n5,n6,[],[]]) 257 dB=ig jG [r,n0,n1,n2,n3,n4,[],[ty],link,dB,[],[],n5,n6,[],[]] from g.1]
 replace f:Fit jG [r,n0,n1,n2,n3,n4,[],[ty],link,dB,[],[],n5,n6,[],[]]:=g.2
 clear g;have g:=gD jG [r,n0,n1,n2,n3,n4,[],[ty],link,dB,[],[],n5,n6,[],[]] 10 user f rfl hu;rw[show lay (ig jG [r,n0,n1,n2,n3,n4,[],[ty],link,dB,[],[],n5,n6,[],[]]) 265 user=ig jG [r,n0,n1,n2,n3,n4,[],[ty],link,dB,user,[],n5,n6,[],[]] from g.1]
 replace f:Fit jG [r,n0,n1,n2,n3,n4,[],[ty],link,dB,user,[],n5,n6,[],[]]:=g.2
 clear g;have g:=gD jG [r,n0,n1,n2,n3,n4,[],[ty],link,dB,user,[],n5,n6,[],[]] 11 group f rfl hg;rw[show lay (ig jG [r,n0,n1,n2,n3,n4,[],[ty],link,dB,user,[],n5,n6,[],[]]) 297 group=ig jG [r,n0,n1,n2,n3,n4,[],[ty],link,dB,user,group,n5,n6,[],[]] from g.1]
 replace f:Fit jG [r,n0,n1,n2,n3,n4,[],[ty],link,dB,user,group,n5,n6,[],[]]:=g.2
 clear g;have g:=gD jG [r,n0,n1,n2,n3,n4,[],[ty],link,dB,user,group,n5,n6,[],[]] 14 p f rfl hp;rw[show lay (ig jG [r,n0,n1,n2,n3,n4,[],[ty],link,dB,user,group,n5,n6,[],[]]) 345 p=ig jG [r,n0,n1,n2,n3,n4,[],[ty],link,dB,user,group,n5,n6,p,[]] from g.1]
def rO(h:Hd):Bool:=decide ((Plain.split h.name).2.2=0/\h.link.length<=100/\h.user.length<=32/\h.group.length<=32/\(0:UInt8)∉h.link/\(0:UInt8)∉h.user/\(0:UInt8)∉h.group/\h.ty≠0) &&
 decide (0<=h.mode/\0<=h.size/\0<=h.major/\0<=h.minor/\0<=h.uid/\h.uid<=2147483647/\0<=h.gid/\h.gid<=2147483647/\-1099511627776<=h.mtime/\h.mtime<=1099511627776) &&
 decide ((Plain.put h.mode 8).2=0/\(Plain.put h.uid 8).2=0/\(Plain.put h.gid 8).2=0/\(Plain.put h.size 12).2=0/\(Plain.put h.mtime 12).2=0/\(Plain.put h.major 8).2=0/\(Plain.put h.minor 8).2=0)
def partsOf(h:Hd)(s:List UInt8):List (List UInt8) :=[(Plain.split h.name).2.1,(Plain.put h.mode 8).1,(Plain.put h.uid 8).1,(Plain.put h.gid 8).1,(Plain.put h.size 12).1,(Plain.put h.mtime 12).1,s,[h.ty],h.link,dB,h.user,h.group,(Plain.put h.major 8).1,(Plain.put h.minor 8).1,(Plain.split h.name).1,[]]
def oZ(h:Hd):List UInt8:=ig jG (partsOf h [])
def Plain.make(h:Hd):List UInt8×Int:=if rO h=true then(Plain.seal (oZ h),0) else(cZ,43)
structure Ol(h:Hd):Prop where
 mode:iF h.mode=true
 uid:iF h.uid=true
 gid:iF h.gid=true
 size:iF h.size=true
 mtime:iF h.mtime=true
 major:iF h.major=true
 minor:iF h.minor=true
theorem aau(v n:Int)(h63:iF v=true)(h:(Plain.put v n).2=0)(m:Nat)(hm:n=m):(Plain.put v n).1.length=m:=by
 have:=(XF v n h63 h).2;omega
section
theorem RA(l:List UInt8):bN l=if (eH l 257 265==dB)=true then 2 else if (eH l 257 265==Hr)=true then 3 else 1:=by
 unfold bN;simp only[beq_iff_eq]
theorem Yz(g:Nat)(l:List UInt8)(w:World)(hl:l.length=512)(hg:w.heap[g]? = some (.cells (aL l) 70 (0,0))):Calls qp0 145 #[.pointer (some ⟨g,0,none⟩)] w fun e w'=>e=.returned (.int .i64 (bN l))/\w=w':=by
 have hb:Bs w (some ⟨g,257,none⟩) (265 - 257) (512 - 257) (eH l 257 265):=Nj hg 257 265 (512 - 257) (by decide) (by omega) (by decide) (by unfold maxLen;omega);rw[RA];unfold dB Hr;generalize eH l 257 265=f at *
 have HB:=ah hb;clear hb hg hl;by_cases h1:(f==[117,115,116,97,114,0,48,48])=true
 .rw[if_pos h1];go_enter func145,ntmps145;go_wp2_with (first|(with_reducible first|refine bA rfl _ _ _ _ rfl underlying70 (by kernel_rfl) g rfl 257 265 .i64 .i64 rfl rfl (by decide) (by decide) (by decide) ?_|refine aT rfl _ _ _ rfl underlying22 underlying5 underlying9 rfl HB.out ?_))
  go_ret;exact⟨rfl,rfl⟩
 .have h1':(f==[117,115,116,97,114,0,48,48])=false:=by simpa using h1
  rw[if_neg h1];clear h1;by_cases h2:(f==[117,115,116,97,114,32,32,0])=true
  .rw[if_pos h2];go_enter func145,ntmps145;go_wp2_with (first|(with_reducible first|refine bA rfl _ _ _ _ rfl underlying70 (by kernel_rfl) g rfl 257 265 .i64 .i64 rfl rfl (by decide) (by decide) (by decide) ?_|refine aT rfl _ _ _ rfl underlying22 underlying5 underlying9 rfl HB.out ?_))
   go_ret;exact⟨rfl,rfl⟩
  .have h2':(f==[117,115,116,97,114,32,32,0])=false:=by simpa using h2
   rw[if_neg h2];clear h2;go_enter func145,ntmps145;go_wp2_with (first|(with_reducible first|refine bA rfl _ _ _ _ rfl underlying70 (by kernel_rfl) g rfl 257 265 .i64 .i64 rfl rfl (by decide) (by decide) (by decide) ?_|refine aT rfl _ _ _ rfl underlying22 underlying5 underlying9 rfl HB.out ?_))
   go_ret;exact⟨rfl,rfl⟩
def fieldAt:Nat->Nat×Nat×Int×Int
 | 0=>(100,108,0,9223372036854775807)
 | 1=>(108,116,0,2147483647)
 | 2=>(116,124,0,2147483647)
 | 3=>(124,136,0,9223372036854775807)
 | 4=>(136,148,-1099511627776,1099511627776)
 | 5=>(329,337,0,9223372036854775807)
 | _=>(337,345,0,9223372036854775807)
def Cj(k:Nat):List Value:=[.int .i64 (fieldAt k).1,.int .i64 (fieldAt k).2.1,.int .i64 (fieldAt k).2.2.1,.int .i64 (fieldAt k).2.2.2]
def nW:Array Value:=(((List.range 7).flatMap Cj)).toArray
theorem OH:(qp0.info? 133).map (·.size)=some nW.size:=by kernel_rfl
theorem Nt:∀ u∈nW.toList,u.oneCell'=true:=by
 intro u hu;simp[nW,Cj,fieldAt,List.range,List.range.loop] at hu;rcases hu with h|h|h|h|h|h|h|h|h|h|h|h|h|h|h|h|h|h|h|h|h|h|h|h|h|h|h|h <;> subst h <;> rfl
section
variable {P:Program}{ops:Array Oper}{rest:List Oper}{o:Oper}{a:Act}{w:World}{Q:Exit->Act->World->Prop}
theorem fD(hg:o.guard=none){t:TypeId}{es:Array (Nat×Operand)}(_ho:o.op=.build t es)(v:Value)(h:(execOp a.eval o).run P w=.ok (.value v) w)(hk:wpList P ops Q rest (a.put o.dst v) w):wpList P ops Q (o::rest) a w:=bI hg v w h hk
end
theorem Cx(w:World):Calls qp0 69 #[] w fun e w'=>e=.returned (.agg nW)/\Below w.heap.size w w':=by
 obtain⟨FA,hFA⟩:∃ FA,FA=nW:=⟨_,rfl⟩
 have HI:Hid ((qp0.info? 133).map (·.size)=some FA.size):=by rw[hFA];exact ah OH
 have HO:Hid (∀ u∈FA.toList,u.oneCell'=true):=by rw[hFA];exact ah Nt
 have HS:Hid (FA.size=28):=by rw[hFA];exact ah rfl
 rw[<-hFA];have HFA:=ah hFA;clear hFA;go_enter func69,ntmps69;go_upto_region 1 with fail
 have hh:=heap_alloc_new w (.cells #[.int .i64 0,.int .i64 0,.int .i64 0,.int .i64 0,.int .i64 0,.int .i64 0,.int .i64 0,.int .i64 0,.int .i64 0,.int .i64 0,.int .i64 0,.int .i64 0,.int .i64 0,.int .i64 0,.int .i64 0,.int .i64 0,.int .i64 0,.int .i64 0,.int .i64 0,.int .i64 0,.int .i64 0,.int .i64 0,.int .i64 0,.int .i64 0,.int .i64 0,.int .i64 0,.int .i64 0,.int .i64 0] 133);have hb:=(Below.refl w.heap.size w).alloc (aY _) (.cells #[.int .i64 0,.int .i64 0,.int .i64 0,.int .i64 0,.int .i64 0,.int .i64 0,.int .i64 0,.int .i64 0,.int .i64 0,.int .i64 0,.int .i64 0,.int .i64 0,.int .i64 0,.int .i64 0,.int .i64 0,.int .i64 0,.int .i64 0,.int .i64 0,.int .i64 0,.int .i64 0,.int .i64 0,.int .i64 0,.int .i64 0,.int .i64 0,.int .i64 0,.int .i64 0,.int .i64 0,.int .i64 0] 133);have hz:(#[.int .i64 0,.int .i64 0,.int .i64 0,.int .i64 0,.int .i64 0,.int .i64 0,.int .i64 0,.int .i64 0,.int .i64 0,.int .i64 0,.int .i64 0,.int .i64 0,.int .i64 0,.int .i64 0,.int .i64 0,.int .i64 0,.int .i64 0,.int .i64 0,.int .i64 0,.int .i64 0,.int .i64 0,.int .i64 0,.int .i64 0,.int .i64 0,.int .i64 0,.int .i64 0,.int .i64 0,.int .i64 0]:Array Value).size=FA.size:=by rw[HS.out];rfl
 generalize (#[.int .i64 0,.int .i64 0,.int .i64 0,.int .i64 0,.int .i64 0,.int .i64 0,.int .i64 0,.int .i64 0,.int .i64 0,.int .i64 0,.int .i64 0,.int .i64 0,.int .i64 0,.int .i64 0,.int .i64 0,.int .i64 0,.int .i64 0,.int .i64 0,.int .i64 0,.int .i64 0,.int .i64 0,.int .i64 0,.int .i64 0,.int .i64 0,.int .i64 0,.int .i64 0,.int .i64 0,.int .i64 0]:Array Value)=Z at *
 generalize w.alloc (.cells Z 133)=wa at *
 have HH:=ah hh;have HB:=ah hb;have HZ:=ah hz;clear hh hb hz;go_wp2_with (first|((with_reducible refine fD (t:=132) (es:=#[(0,.const (.int .i64 100)),(1,.const (.int .i64 108)),(2,.const (.int .i64 0)),(3,.const (.int .i64 9223372036854775807))]) rfl rfl (.agg #[.int .i64 100,.int .i64 108,.int .i64 0,.int .i64 9223372036854775807]) (by kernel_rfl) ?_);simp only[Act.put,eu,dY,qzs])|((with_reducible refine fD (t:=132) (es:=#[(0,.const (.int .i64 108)),(1,.const (.int .i64 116)),(2,.const (.int .i64 0)),(3,.const (.int .i64 2147483647))]) rfl rfl (.agg #[.int .i64 108,.int .i64 116,.int .i64 0,.int .i64 2147483647]) (by kernel_rfl) ?_);simp only[Act.put,eu,dY,qzs])|((with_reducible refine fD (t:=132) (es:=#[(0,.const (.int .i64 116)),(1,.const (.int .i64 124)),(2,.const (.int .i64 0)),(3,.const (.int .i64 2147483647))]) rfl rfl (.agg #[.int .i64 116,.int .i64 124,.int .i64 0,.int .i64 2147483647]) (by kernel_rfl) ?_);simp only[Act.put,eu,dY,qzs])|((with_reducible refine fD (t:=132) (es:=#[(0,.const (.int .i64 124)),(1,.const (.int .i64 136)),(2,.const (.int .i64 0)),(3,.const (.int .i64 9223372036854775807))]) rfl rfl (.agg #[.int .i64 124,.int .i64 136,.int .i64 0,.int .i64 9223372036854775807]) (by kernel_rfl) ?_);simp only[Act.put,eu,dY,qzs])|((with_reducible refine fD (t:=132) (es:=#[(0,.const (.int .i64 136)),(1,.const (.int .i64 148)),(2,.const (.int .i64 (-1099511627776))),(3,.const (.int .i64 1099511627776))]) rfl rfl (.agg #[.int .i64 136,.int .i64 148,.int .i64 (-1099511627776),.int .i64 1099511627776]) (by kernel_rfl) ?_);simp only[Act.put,eu,dY,qzs])|((with_reducible refine fD (t:=132) (es:=#[(0,.const (.int .i64 329)),(1,.const (.int .i64 337)),(2,.const (.int .i64 0)),(3,.const (.int .i64 9223372036854775807))]) rfl rfl (.agg #[.int .i64 329,.int .i64 337,.int .i64 0,.int .i64 9223372036854775807]) (by kernel_rfl) ?_);simp only[Act.put,eu,dY,qzs])|((with_reducible refine fD (t:=132) (es:=#[(0,.const (.int .i64 337)),(1,.const (.int .i64 345)),(2,.const (.int .i64 0)),(3,.const (.int .i64 9223372036854775807))]) rfl rfl (.agg #[.int .i64 337,.int .i64 345,.int .i64 0,.int .i64 9223372036854775807]) (by kernel_rfl) ?_);simp only[Act.put,eu,dY,qzs])|((with_reducible refine fD (t:=133) (es:=#[(0,.tmp 1),(1,.tmp 2),(2,.tmp 3),(3,.tmp 4),(4,.tmp 5),(5,.tmp 6),(6,.tmp 7)]) rfl rfl (.agg FA) (by rw[HFA.out];kernel_rfl) ?_);simp only[Act.put,eu,dY,qzs])|(with_reducible refine wpList_store_row rfl 133 _ _ rfl w.heap.size rfl FA rfl Z 133 HH.out HZ.out HI.out HO.out ?_))
 refine bodyPost_ret (results_cell_row rfl _ _ w.heap.size 133 FA (0,0) _ rfl (setRow_heap _ _ _ _ _ _ HH.out) underlying133 rfl HI.out) rfl ⟨rfl,Below.setRow HB.out (aY _) _⟩
end
section
section
variable {P:Program}{ops:Array Oper}{rest:List Oper}{o:Oper}{a:Act}{w:World}{Q:Exit->Act->World->Prop}
theorem zy(hgd:o.guard=none)(t:TypeId)(y x:Operand)(ho:o.op=.index t y x){e:TypeId}{n:Nat}(ht:P.underlying t=some (.array n e))(he:P.underlying e=some (.int .u8))(hsz:(P.info? e).map (·.size)=some 1)(l:List UInt8)(hl:l.length=n)(hy:a.eval y=.agg (aL l)){k:IntKind}(d:Nat)(hx:a.eval x=.int k (d:Int))(hd:d<n)(h:wpList P ops Q rest (a.put o.dst (.int .u8 ((l.getD d 0).toNat:Int))) w):wpList P ops Q (o::rest) a w:=by
 refine bI hgd _ _ ?_ h;have hg:(aL l)[d]? = some (.int .u8 ((l.getD d 0).toNat:Int)):=tF l d (by omega);have hlt:d<(aL l).size:=by rw[eZ];omega
 have hpart:=I7 (P:=P) (w:=w) he l d (by omega);have hdi:(d:Int)<(n:Int):=by omega
 have hr:(Instr.index t (.agg (aL l)) (.int k (d:Int))).run P w=.ok (.int .u8 ((l.getD d 0).toNat:Int)) w:=by
  simp only[aL] at *
  obtain⟨i,hi',hs'⟩:=zA.1 hsz;simp[Instr.index,run_underlying ht,asIntOf,Result.andThen,hd,hdi,sizeOf,typeInfo,hi',hs',hpart]
 simp[execOp,ho,hy,hx,hr,Result.andThen]
end
theorem adY(b:UInt8):IntKind.i8.wrap (b.toNat:Int)=Ju b:=by
 unfold Ju;have:=sD b;simp[IntKind.wrap,IntKind.bits,IntKind.signed];split <;> split <;> omega
theorem KX(l:List UInt8)(hl:l.length=512)(w:World):Calls qp0 73 #[.agg (aL l)] w fun e w'=>e=.returned (.tuple #[.int .i64 (Plain.sum uby l),.int .i64 (Plain.sum Ju l)])/\Below w.heap.size w w':=by
 have HL:=ah hl;have h0:ko w 70 (l9 l 0) (w.alloc (.cells (aL l) 70)):=by rw[LJ];exact ko.new w _ _
 have H0:=ah h0;clear h0 hl;go_enter func73,ntmps73;go_wp2_with (with_reducible refine dO rfl _ _ rfl (aL l) rfl ?_)
 go_loopw [4] (fun i wr=>∃ k:Nat,k<=8/\i=.int .i64 (148+(k:Int))/\ko w 70 (l9 l k) wr) (fun i _=>156-(intOf i).toNat)
 case atStart=>exact⟨0,by omega,by go_num,H0.out⟩
 case round =>
  obtain⟨k,hk,rfl,hD⟩:=hrel;have hlen:=P7 l k (by rw[HL.out];omega);by_cases hlt:k<8
  .have hset:=OM l k (by rw[HL.out];omega);obtain⟨j,hj⟩:∃ j:Nat,148+(k:Int)=(j:Int):=⟨148+k,by omega⟩
   have hjk:148+k=j:=by omega
   have hcell:=hD.cell j (by rw[hlen,HL.out];omega);have hfz:=hD.ac8 j;have hD2:=hD.set j 32
   rw[<-hjk,hset,hjk] at hD2;have HD2:=ah hD2;have hj5:(j:Int)<512:=by omega
   have hj6:(j:Int)<156:=by omega
   clear hset hD hD2 hlen;go_wp2
   exact⟨⟨k+1,by omega,by go_num,HD2.out⟩,by simp[intOf];omega⟩
  .obtain rfl:k=8:=by omega
   have hrow:=hD.row;have hbel:=hD.bJ;have hbl:l9 l 8=blank l:=rfl;rw[hbl] at hrow hlen;have hs1:=GD uby l;have hs2:=GD Ju l;have hll:(blank l).length=512:=by rw[hlen];exact HL.out
   have HI:=ah (iL (blank l) hll);have agu:=ah hrow;have Ro:=ah hll;have HS1:=ah hs1;have HS2:=ah hs2;clear hrow hll hs1 hs2 hlen hbl hD;generalize blank l=m at *
   have hi:¬ (148+((8:Nat):Int))<156:=by omega
   go_wp2_with (with_reducible refine wpList_load_row rfl _ _ rfl w.heap.size rfl 70 (aL m) (0,0) _ agu.out underlying70 rfl HI.out ?_)
   go_loop [16,5,6] (fun i u s=>∃ k:Nat,k<=512/\i=.int .i64 k/\u=.int .i64 (kH uby (m.take k))/\s=.int .i64 (kH Ju (m.take k))) (fun i _ _=>512-(intOf i).toNat)
   case atStart=>exact⟨0,by omega,rfl,rfl,rfl⟩
   case round =>
    obtain⟨k,hk,rfl,rfl,rfl⟩:=hrel;by_cases hlt:k<512
    .have hu:=F3 uby m k (by rw[Ro.out];exact hlt);have hs:=F3 Ju m k (by rw[Ro.out];exact hlt);have b1:=DI uby DV m k (by omega);have b2:=DI Ju Xw m k (by omega);have hw:=adY (m.getD k 0);have c1:=IK (m.getD k 0);have c2:=V5 (m.getD k 0);have hub:uby (m.getD k 0)=((m.getD k 0).toNat:Int):=rfl;rw[hub] at hu c1;generalize hUU:kH uby (m.take (k+1))=U' at *
     generalize hVV:kH Ju (m.take (k+1))=S' at *
     generalize kH uby (m.take k)=U at *
     generalize kH Ju (m.take k)=S at *
     have hkk:(k:Int)<512:=by omega
     obtain⟨b11,b12⟩:=b1;obtain⟨b21,b22⟩:=b2;obtain⟨c11,c12⟩:=c1;obtain⟨c21,c22⟩:=c2;generalize hX:((m.getD k 0).toNat:Int)=X at *
     generalize Ju (m.getD k 0)=Y at *
     have HU:=ah (hUU.trans hu);have HSS:=ah (hVV.trans hs);have HX:=ah hX;clear hUU hVV hu hs hub hX;go_wp2_with (refine zy rfl _ _ _ rfl underlying70 underlying5 (by kernel_rfl) m Ro.out rfl k rfl hlt ?_;rw[HX.out])
     go_round
     case rel=>exact⟨k+1,by omega,by go_num,by rw[HU.out],by rw[HSS.out]⟩
     case measure=>simp[intOf];omega
    .obtain rfl:k=512:=by omega
     have e:m.take 512=m:=MU (by rw[Ro.out];exact aY _);rw[e];have hkk:¬ (512:Int)<512:=by omega
     go_wp2
     go_ret2;exact⟨by rw[HS1.out,HS2.out];rfl,hbel⟩
end
theorem TT(x y:Int)(h:x%256=0)(h0:0<=y)(h1:y<256):bits .or .i64 x y=IntKind.i64.wrap (x+y):=by
 obtain⟨b,rfl⟩:=Xq h0;have hb:b<2^8:=by omega
 obtain⟨m,hm⟩:∃ m:Nat,(x%((2^64:Nat):Int)).toNat=2^8*m:=⟨(x%((2^64:Nat):Int)).toNat / 256,by omega⟩
 have key:(BitVec.ofInt 64 x ||| BitVec.ofInt 64 (b:Int)).toNat=2^8*m+b:=by
  rw[BitVec.toNat_or,BitVec.toNat_ofInt,BitVec.toNat_ofInt,hm,show((b:Int)%((2^64:Nat):Int)).toNat=b by omega,Nat.two_pow_add_eq_or_of_lt hb]
 show IntKind.i64.wrap ((BitVec.ofInt 64 x ||| BitVec.ofInt 64 (b:Int)).toNat:Nat)=_;rw[key,IntKind.wrap_i64,IntKind.wrap_i64];omega
theorem ret_val{k:IntKind}{x y:Int}(h:x=y):Value.int k x=Value.int k y:=by rw[h]
theorem Lf(a:Option Addr)(n c:Nat)(l:List UInt8)(w:World)(h:Bs w a n c l)(hlow:l=[]\/(l.getD 0 0).toNat<128):Calls qp0 109 #[.slice a n c] w fun e w'=>e=.returned (nU (Plain.mW l))/\w=w':=by
 have hl:=h.len;have hcap:=h.cap;have hmax:=h.max;rw[Plain.Mw l hlow];by_cases h0:n=0
 .subst h0;go_enter func109,ntmps109;go_wp2
  go_ret2;exact⟨rfl,rfl⟩
 .have hc:=h.at 0 (by omega);have hg:(l.getD 0 0).toNat<128:=by
   rcases hlow with h1|h1
   .subst h1;simp at hl;omega
   .exact h1
  obtain⟨b,off,rfl,hc⟩:=hc;rw[R4] at hc;generalize hG:((l.getD 0 0).toNat:Int)=G at hc;have g1:G<128:=by omega
  have hn0:((n:Int)==0)=false:=by rw[beq_eq_false_iff_ne];omega
  have hn1:(0:Int)<n:=by omega
  have hn2:0<n:=by omega
  have HL:=ah hl;clear hl hG hlow h0;go_enter func109,ntmps109;go_wp2
  go_ret2;exact⟨rfl,rfl⟩
theorem Ie(a:Option Addr)(n c:Nat)(l:List UInt8)(w:World)(h:Bs w a n c l)(hne:0<l.length)(hhi:¬ (l.getD 0 0).toNat<128):Calls qp0 109 #[.slice a n c] w fun e w'=>e=.returned (nU (Plain.mW l))/\w=w':=by
 have hl:=h.len;have hcap:=h.cap;have hmax:=h.max;have hb:=Plain.OU l hne hhi;generalize Plain.mW l=r at *
 obtain⟨b,off,rfl,hc⟩:=h.at 0 (by omega);rw[R4] at hc;have hbh:2*(iK (l.getD 0 0))=wrap64 (IntKind.i8.wrap (((l.getD 0 0).toNat:Int)*2%256))/\-64<=iK (l.getD 0 0)/\iK (l.getD 0 0)<=63:=by
  have:=sD (l.getD 0 0);unfold iK;generalize l.getD 0 0=x at *
  simp[IntKind.wrap,IntKind.bits,IntKind.signed,wrap64];split <;> omega
 generalize iK (l.getD 0 0)=s at *
 generalize hG:((l.getD 0 0).toNat:Int)=G at hc hbh;have g1:128<=G:=by omega
 have g2:G<256:=by have:=sD (l.getD 0 0);omega
 have hn0:((n:Int)==0)=false:=by rw[beq_eq_false_iff_ne];omega
 have hn1:(1:Int)<=n:=by omega
 have hn2:0<n:=by omega
 have hcut:(l.take n).drop 1=l.drop 1:=by rw[MU (by omega)]
 have hml:(l.drop 1).length=n - 1:=by rw[zW];omega
 have HC:=ah hcut;have HBH:=ah hbh;have HB:=ah hb;have HML:=ah hml;clear hl hG hcut hbh hb hml hhi hne;go_enter func109,ntmps109;go_wp2_with (first|((with_reducible refine gI rfl _ _ _ _ rfl underlying22 (by kernel_rfl) rfl h 1 n .i64 .i64 rfl rfl (by omega) (by omega) ?_);intro a2 hb2;rw[HC.out] at hb2))
 clear h hc;go_loop [26,4] (fun i v=>∃ (k:Nat)(V:Int),k<=n - 1/\i=.int .i64 k/\v=.int .i64 V/\-9223372036854775808<=V/\V<=9223372036854775807/\Hid (dx s ((l.drop 1).take k)=V)) (fun i _=>n - 1-(intOf i).toNat)
 case atStart =>
  obtain⟨e1,e2,e3⟩:=HBH.out;exact⟨0,s,by omega,rfl,ret_val (by rw[<-e1];omega),by omega,by omega,ah (by rw[qct,jf])⟩
 case round =>
  obtain⟨k,V,hk,rfl,rfl,v1,v2,hV⟩:=hrel;by_cases hlt:k<n - 1
  .obtain⟨b1,off1,rfl,hc⟩:=hb2.at k hlt;have hstep:=zX s (l.drop 1) k (by rw[HML.out];exact hlt);have hout:V < -36028797018963968\/36028797018963967<V->r=(0,11):=fun ho=>by
    rw[HB.out,Qd s (l.drop 1) k (by rw[HML.out];exact hlt) (by rw[hV.out];exact ho)];rfl
   rw[hV.out] at hstep;generalize hX:(((l.drop 1).getD k 0).toNat:Int)=X at hc hstep;have x1:0<=X:=by omega
   have x2:X<256:=by have:=sD ((l.drop 1).getD k 0);omega
   have HST:=ah hstep;have HO:=ah hout;clear hstep hout hX hV;have hi:(k:Int)<((n - 1:Nat):Int):=by omega
   by_cases hin:V < -36028797018963968\/36028797018963967<V
   .obtain rfl:=HO.out hin;have q1:(V / 36028797018963968 != 0)=true:=by rw[bne_iff_ne];omega
    have q2:(V / 36028797018963968 != -1)=true:=by rw[bne_iff_ne];omega
    clear hin;go_wp2
    go_ret2;exact⟨rfl,rfl⟩
   .have hor:bits .or .i64 (V*256) X=V*256+X:=by
     rw[TT _ _ (by omega) x1 x2,IntKind.wrap_i64];omega
    have n1:-36028797018963968<=V:=by omega
    have n2:V<=36028797018963967:=by omega
    have n3:-9223372036854775808<=V*256:=by omega
    have n4:V*256<=9223372036854775807:=by omega
    clear hin;by_cases hneg:V<0
    .have q1:(V / 36028797018963968 != 0)=true:=by rw[bne_iff_ne];omega
     have q2:(V / 36028797018963968 != -1)=false:=by rw[bne_eq_false_iff_eq];omega
     go_wp2
     go_round
     case rel=>exact⟨k+1,V*256+X,by omega,by go_num,rfl,by omega,by omega,HST⟩
     case measure=>simp[intOf];omega
    .have q1:(V / 36028797018963968 != 0)=false:=by rw[bne_eq_false_iff_eq];omega
     go_wp2
     go_round
     case rel=>exact⟨k+1,V*256+X,by omega,by go_num,rfl,by omega,by omega,HST⟩
     case measure=>simp[intOf];omega
  .obtain rfl:k=n - 1:=by omega
   have hv:=hV.out;rw[MU (by rw[HML.out];exact aY _)] at hv;have hr:=HB.out;rw[hv,if_pos ((gM V).2 ⟨v1,v2⟩)] at hr;subst hr;have hi:¬ ((n - 1:Nat):Int)<((n - 1:Nat):Int):=by omega
   clear hv hV;go_wp2
   go_ret2;exact⟨rfl,rfl⟩
theorem MF(a:Option Addr)(n c:Nat)(l:List UInt8)(w:World)(h:Bs w a n c l):Calls qp0 109 #[.slice a n c] w fun e w'=>e=.returned (nU (Plain.mW l))/\w=w':=by
 by_cases hlow:l=[]\/(l.getD 0 0).toNat<128
 .exact Lf a n c l w h hlow
 .exact Ie a n c l w h (by cases l;exact absurd (.inl rfl) hlow;simp) (fun h=>hlow (.inr h))
def Yl(w:World)(b:Nat):Prop:=∀ x:UInt8,w.cell? ⟨b,x.toNat,none⟩=some (.bool (gX x))
theorem Ia(x:UInt8):[32,0].contains x=gX x:=by
 simp only[gX,List.contains_cons,List.contains_nil,Bool.or_false]
theorem FE(l:List UInt8)(b:Nat)(w:World)(hl:l.length<=140737488355328)(hg:Yl w b):Calls qp0 165 #[.string ⟨l.toArray⟩,.pointer (some ⟨b,0,none⟩)] w fun e w'=>e=.returned (.string ⟨(dM l).toArray⟩)/\w'=w:=by
 generalize hr:dM l=R;have HR:=ah hr;clear hr;have HG:=ah hg;clear hg;go_enter func165,ntmps165;go_wp2
 go_loop [0] (fun t=>∃ s:List UInt8,t=.string ⟨s.toArray⟩/\s.length<=140737488355328/\Hid (dM s=R)) (fun t=>match t with|.string x=>x.size|_=>0)
 case atStart=>exact⟨l,rfl,hl,HR⟩
 case round =>
  obtain⟨s,rfl,hs,ht⟩:=hrel;by_cases h0:s=[]
  .subst h0;obtain rfl:R=[]:=by rw[<-ht.out];rfl
   go_wp2
   go_ret;exact⟨rfl,rfl⟩
  .obtain⟨t,c,rfl⟩:∃ t c,s=t++[c]:=⟨s.dropLast,s.getLast h0,(qbS h0).symm⟩
   have hx:=oO (t++[c]) t.length (by simp);have hgd:(t++[c]).getD t.length 0=c:=by simp[List.getD]
   rw[hgd] at hx;have hlen:(t++[c]).length=t.length+1:=by simp
   have hext:(⟨(t++[c]).toArray⟩:ByteArray).extract 0 t.length=⟨t.toArray⟩:=by
    apply qb2;simp[qbB]
   have hst:t.length<=140737488355328:=by omega
   have Vi:=ah hext
   cases qc:gX c with
   | false =>
    have hcon:=Tryz.asciiSet_contains b c (gX c) w (HG.out c);rw[qc] at hcon;have HC:=ah hcon;have hRR:t++[c]=R:=by rw[<-G9 t c qc];exact ht.out
    have HRR:=ah hRR;clear hcon hRR hgd hext h0 qc;go_wp2_with (go_at_call 195;refine(HC.out).mono ?_;rintro e w1 ⟨rfl,hw⟩;obtain rfl:=hw.symm)
    go_ret;exact⟨by rw[<-HRR.out];rfl,rfl⟩
   | true =>
    have hcon:=Tryz.asciiSet_contains b c (gX c) w (HG.out c);rw[qc] at hcon;have HC:=ah hcon;have hRR:dM t=R:=by rw[<-Rq t c qc];exact ht.out
    have HRR:=ah hRR;clear hcon hRR hgd hext h0 qc;go_wp2_with (go_at_call 195;refine(HC.out).mono ?_;rintro e w1 ⟨rfl,hw⟩;obtain rfl:=hw.symm)
    rw[Vi.out];exact⟨⟨t,rfl,hst,HRR⟩,by simp[ByteArray.size]⟩
theorem Ls:∀ w,(zeroValue 223).run qp0 w=.ok (.agg (Array.replicate 256 (.bool false))) w:=fun w=>by kernel_rfl
theorem abA:(qp0.info? 223).map (·.size)=some (Lib.setCells [32,0]).size:=by rw[Lib.setCells_size];kernel_rfl
theorem abk:(qp0.info? 223).bind (·.zero)=some (.agg (Array.replicate 256 (.bool false))):=by kernel_rfl
theorem acv:∀ u∈(Lib.setCells [32,0]).toList,u.oneCell'=true:=by
 intro u hu;have h:=Lib.setCells_one [32,0];generalize Lib.setCells [32,0]=A at *
 rw[YF] at h;obtain⟨i,hi,rfl⟩:=qbz hu;exact h i (by simpa using hi)
theorem OA(w1:World):Yl (w1.alloc (.cells (Lib.setCells [32,0]) 223)) w1.heap.size:=fun x=>by
 rw[World.cell?_alloc_new,Lib.setCells_at,Ia]
theorem JR(l:List UInt8)(w:World)(hl:l.length<=140737488355328):Calls qp0 129 #[.string ⟨l.toArray⟩,.string ⟨#[32,0]⟩] w fun e w'=>e=.returned (.string ⟨(dM l).toArray⟩)/\Below w.heap.size w w':=by
 by_cases h0:l=[]
 .subst h0;go_enter func129,ntmps129;go_wp2
  go_ret;exact⟨rfl,Below.refl _ _⟩
 .have Zw:l.isEmpty=false:=by simpa using h0
  have hasc:∀ (j:Nat) b,[(32:UInt8),0][j]? = some b->b.toNat<128:=by
   intro j b hj
   match j,hj with
   | 0,hj=>cases hj;decide
   | 1,hj=>cases hj;decide
  have HM:=ah (Tryz.strings_makeASCIISet Ls ⟨#[32,0]⟩ w (by decide) hasc);generalize hR:dM l=R;have HR:=ah hR;have HZ:=ah abk;have qj:=ah abA;have HO:Hid (∀ u∈(Lib.setCells [32,0]).toList,u.oneCell'=true):=ah (acv);go_enter func129,ntmps129;clear hR;go_wp2_with (first|(go_at_call 164;refine(HM.out).mono ?_;rintro e w1 ⟨rfl,hw⟩;have HW:=ah hw;clear hw)|(with_reducible refine bV rfl _ rfl (Array.replicate 256 (.bool false)) HZ.out ?_)|((with_reducible refine kC rfl _ _ _ rfl _ rfl (Lib.setCells [32,0]) rfl ?_ (by rw[Lib.setCells_size,Array.size_replicate]) qj.out HO.out ?_);· simp)|(go_at_call 165;refine(FE l _ _ hl (by exact OA w1)).mono ?_;rintro e w3 ⟨rfl,hw⟩;obtain rfl:=hw.symm;rw[HR.out]))
  go_ret;refine⟨rfl,?_⟩;rw[HW.out];exact((Below.refl _ _).alloc (aY _) _).alloc (by simp) _
end Go.Proofs.YtdbgldieilgnmaaGreatDoor
