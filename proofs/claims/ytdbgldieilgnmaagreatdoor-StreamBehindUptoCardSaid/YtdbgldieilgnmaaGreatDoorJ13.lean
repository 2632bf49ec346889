/- J13 -/
import Derived.Test.YtdbgldieilgnmaaGreatDoorJ12
import Derived.Maps.RangeWalk
import Derived.Lib.LazyBuf
import Derived.Lib.SpaceUEq
import Derived.StillTailTactics
import Derived.Laws.Cover1
set_option linter.unusedVariables false
set_option linter.unusedSimpArgs false
set_option maxHeartbeats 8000000
set_option maxRecDepth 100000
namespace Go.Proofs.YtdbgldieilgnmaaGreatDoor
open Go.Proofs.Tryz
open Go.Proofs.Tryz renaming prog → qp0
open Go.ChangeShapes Go.WideShapes Go.ChangeAt Go.RowKit
structure En where
 kind:Int
 name:List UInt8
 link:List UInt8
 mode:Int
 uid:Int
 gid:Int
 user:List UInt8
 group:List UInt8
 sec:Int
 nano:Int
 data:List UInt8
def kr:List UInt8:=[112,97,116,104]
def mF:List UInt8:=[108,105,110,107,112,97,116,104]
def J7:List UInt8:=[117,105,100]
def LY:List UInt8:=[103,105,100]
def lZ:List UInt8:=[117,110,97,109,101]
def lX:List UInt8:=[103,110,97,109,101]
def qO:List UInt8:=[109,116,105,109,101]
namespace Plain
def laid(h:Hd)(d:List UInt8):List UInt8:=(make {h with size:=d.length}).1++d++List.replicate (Plain.pad d.length).toNat 0
end Plain
def kK:List UInt8:=[48,49,50,51,52,53,54,55,56,57]
def iO(l:List UInt8):List UInt8:=(l.reverse.dropWhile bg).reverse
theorem RQ(t:List UInt8)(c:UInt8)(h:bg c=false):iO (t++[c])=t++[c]:=by simp[iO,h]
theorem Ub(t:List UInt8)(c:UInt8)(h:bg c=true):iO (t++[c])=iO t:=by simp[iO,h]
theorem Sv(l:List UInt8):(iO l).length<=l.length:=by
 unfold iO;have:=(qbC bg (l:=l.reverse)).length_le;simpa using this
def PO(w:World)(b:Nat):Prop:=∀ x:UInt8,w.cell? ⟨b,x.toNat,none⟩=some (.bool (bg x))
theorem Je(x:UInt8):kK.contains x=bg x:=by
 have key:∀ n,n<256->kK.contains (UInt8.ofNat n)=bg (UInt8.ofNat n):=by decide
 have:=key x.toNat x.toNat_lt
 rwa [UInt8.ofNat_toNat] at this
theorem Ir(l:List UInt8)(b:Nat)(w:World)(hl:l.length<=140737488355328)(hg:PO w b):Calls qp0 165 #[.string ⟨l.toArray⟩,.pointer (some ⟨b,0,none⟩)] w fun e w'=>e=.returned (.string ⟨(iO l).toArray⟩)/\w'=w:=by
 generalize hr:iO l=R;have HR:=ah hr;clear hr;have HG:=ah hg;clear hg;go_enter func165,ntmps165;go_wp2
 go_loop [0] (fun t=>∃ s:List UInt8,t=.string ⟨s.toArray⟩/\s.length<=140737488355328/\Hid (iO s=R)) (fun t=>match t with|.string x=>x.size|_=>0)
 case atStart=>exact⟨l,rfl,hl,HR⟩
 case round =>
  obtain⟨s,rfl,hs,ht⟩:=hrel;by_cases h0:s=[]
  .subst h0;obtain rfl:R=[]:=by rw[<-ht.out];rfl
   go_wp2
   go_ret;exact⟨rfl,rfl⟩
  .obtain⟨t,c,rfl⟩:∃ t c,s=t++[c]:=⟨s.dropLast,s.getLast h0,(qbS h0).symm⟩
   have hx:=oO (t++[c]) t.length (by simp);have hgd:(t++[c]).getD t.length 0=c:=by simp[List.getD]
   rw[hgd] at hx;have hlen:(t++[c]).length=t.length+1:=by simp
   have hext:(⟨(t++[c]).toArray⟩:ByteArray).extract 0 t.length=⟨t.toArray⟩:=by
    apply qb2;simp[qbB]
   have hst:t.length<=140737488355328:=by omega
   have Vi:=ah hext
   cases qc:bg c with
   | false =>
    have hcon:=Tryz.asciiSet_contains b c (bg c) w (HG.out c);rw[qc] at hcon;have HC:=ah hcon;have hRR:t++[c]=R:=by rw[<-RQ t c qc];exact ht.out
    have HRR:=ah hRR;clear hcon hRR hgd hext h0 qc;go_wp2_with (go_at_call 195;refine(HC.out).mono ?_;rintro e w1 ⟨rfl,hw⟩;obtain rfl:=hw.symm)
    go_ret;exact⟨by rw[<-HRR.out];rfl,rfl⟩
   | true =>
    have hcon:=Tryz.asciiSet_contains b c (bg c) w (HG.out c);rw[qc] at hcon;have HC:=ah hcon;have hRR:iO t=R:=by rw[<-Ub t c qc];exact ht.out
    have HRR:=ah hRR;clear hcon hRR hgd hext h0 qc;go_wp2_with (go_at_call 195;refine(HC.out).mono ?_;rintro e w1 ⟨rfl,hw⟩;obtain rfl:=hw.symm)
    rw[Vi.out];exact⟨⟨t,rfl,hst,HRR⟩,by simp[ByteArray.size]⟩
theorem Jo(l:List UInt8)(b:Nat)(w:World)(hl:l.length<=140737488355328)(hg:PO w b):Calls qp0 179 #[.string ⟨l.toArray⟩,.pointer (some ⟨b,0,none⟩)] w fun e w'=>e=.returned (.string ⟨(l.dropWhile bg).toArray⟩)/\w'=w:=by
 generalize hr:l.dropWhile bg=R;have HR:=ah hr;clear hr;have HG:=ah hg;clear hg;go_enter func179,ntmps179;go_wp2
 go_loop [0] (fun t=>∃ s:List UInt8,t=.string ⟨s.toArray⟩/\s.length<=140737488355328/\Hid (s.dropWhile bg=R)) (fun t=>match t with|.string x=>x.size|_=>0)
 case atStart=>exact⟨l,rfl,hl,HR⟩
 case round =>
  obtain⟨s,rfl,hs,ht⟩:=hrel
  cases s with
  | nil =>
   obtain rfl:R=[]:=by rw[<-ht.out];rfl
   go_wp2
   go_ret;exact⟨rfl,rfl⟩
  | cons c t =>
   have hx:=oO (c::t) 0 (by simp);have hgd:(c::t).getD 0 0=c:=rfl;rw[hgd] at hx;have hlen:(c::t).length=t.length+1:=rfl;have hext:(⟨(c::t).toArray⟩:ByteArray).extract 1 (t.length+1)=⟨t.toArray⟩:=by
    apply qb2;simp[qbB]
   have hst:t.length<=140737488355328:=by omega
   have Vi:=ah hext
   cases qc:bg c with
   | false =>
    have hcon:=Tryz.asciiSet_contains b c (bg c) w (HG.out c);rw[qc] at hcon;have HC:=ah hcon;have hRR:c::t=R:=by rw[<-ht.out,qby,qc];rfl
    have HRR:=ah hRR;clear hcon hRR hgd hext qc;go_wp2_with (go_at_call 195;refine(HC.out).mono ?_;rintro e w1 ⟨rfl,hw⟩;obtain rfl:=hw.symm)
    go_ret;exact⟨by rw[<-HRR.out];rfl,rfl⟩
   | true =>
    have hcon:=Tryz.asciiSet_contains b c (bg c) w (HG.out c);rw[qc] at hcon;have HC:=ah hcon;have hRR:t.dropWhile bg=R:=by rw[<-ht.out,qby,qc];rfl
    have HRR:=ah hRR;clear hcon hRR hgd hext qc;go_wp2_with (go_at_call 195;refine(HC.out).mono ?_;rintro e w1 ⟨rfl,hw⟩;obtain rfl:=hw.symm)
    rw[Vi.out];exact⟨⟨t,rfl,hst,HRR⟩,by simp[ByteArray.size]⟩
theorem J2:∀ w,(zeroValue 223).run qp0 w=.ok (.agg (Array.replicate 256 (.bool false))) w:=fun w=>by kernel_rfl
theorem Z4:(qp0.info? 223).map (·.size)=some (Lib.setCells kK).size:=by rw[Lib.setCells_size];kernel_rfl
theorem aby:(qp0.info? 223).bind (·.zero)=some (.agg (Array.replicate 256 (.bool false))):=by kernel_rfl
theorem acO:∀ u∈(Lib.setCells kK).toList,u.oneCell'=true:=by
 intro u hu;have h:=Lib.setCells_one kK;generalize Lib.setCells kK=A at *
 rw[YF] at h;obtain⟨i,hi,rfl⟩:=qbz hu;exact h i (by simpa using hi)
theorem Dq(w1:World):PO (w1.alloc (.cells (Lib.setCells kK) 223)) w1.heap.size:=fun x=>by
 rw[World.cell?_alloc_new,Lib.setCells_at,Je]
theorem L9(l:List UInt8)(w:World)(hl:l.length<=140737488355328):Calls qp0 224 #[.string ⟨l.toArray⟩,.string ⟨kK.toArray⟩] w fun e w'=>e=.returned (.string ⟨((iO l).dropWhile bg).toArray⟩)/\Below w.heap.size w w':=by
 by_cases h0:l=[]
 .subst h0;go_enter func224,ntmps224;go_wp2
  go_ret;exact⟨rfl,Below.refl _ _⟩
 .have Zw:l.isEmpty=false:=by simpa using h0
  have hasc:∀ (j:Nat) b,kK[j]? = some b->b.toNat<128:=by
   have key:∀ b∈kK,b.toNat<128:=by decide
   exact fun j b hj=>key b (qbb hj)
  have HM:=ah (Tryz.strings_makeASCIISet J2 ⟨kK.toArray⟩ w (by decide) hasc);have hl2:(iO l).length<=140737488355328:=tT (Sv l) hl;generalize hR:iO l=R at hl2 ⊢;have HR:=ah hR;have HZ:=ah aby;have qj:=ah Z4;have HO:Hid (∀ u∈(Lib.setCells kK).toList,u.oneCell'=true):=ah (acO);go_enter func224,ntmps224;clear hR;go_wp2_with (first|(go_at_call 164;refine(HM.out).mono ?_;rintro e w1 ⟨rfl,hw⟩;have HW:=ah hw;clear hw)|(with_reducible refine bV rfl _ rfl (Array.replicate 256 (.bool false)) HZ.out ?_)|((with_reducible refine kC rfl _ _ _ rfl _ rfl (Lib.setCells kK) rfl ?_ (by rw[Lib.setCells_size,Array.size_replicate]) qj.out HO.out ?_);· simp)|(go_at_call 165;refine(Ir l _ _ hl (by exact Dq w1)).mono ?_;rintro e w3 ⟨rfl,hw⟩;obtain rfl:=hw.symm;rw[HR.out])|(go_at_call 179;refine(Jo R _ _ hl2 (by exact Dq w1)).mono ?_;rintro e w3 ⟨rfl,hw⟩;obtain rfl:=hw.symm))
  go_ret;refine⟨rfl,?_⟩;rw[HW.out];exact((Below.refl _ _).alloc (aY _) _).alloc (by simp) _
theorem dropWhile_nil(p:UInt8->Bool):∀ l:List UInt8,l.dropWhile p=[]↔∀ x∈l,p x=true
 | []=>by simp
 | c::l=>by
  rw[qby]
  cases h:p c with
  | true=>simp only[if_true,rD,forall_eq_or_imp,h,true_and];exact dropWhile_nil p l
  | false=>simp[h]
theorem rU(p:UInt8->Bool):∀ (l:List UInt8)(c:UInt8)(t:List UInt8),l.dropWhile p=c::t->p c=false
 | [],c,t,h=>by cases h
 | a::l,c,t,h=>by
  rw[qby] at h
  cases ha:p a with
  | true=>rw[ha] at h;exact rU p l c t h
  | false=>rw[ha] at h;cases h;exact ha
theorem SA(l:List UInt8)(h:l.all bg=true):iO l=[]:=by
 unfold iO;have:l.reverse.dropWhile bg=[]:=by
  rw[dropWhile_nil];intro x hx;exact Ej.1 h x (by simpa using hx)
 rw[this];rfl
theorem T9(l:List UInt8)(h:iO l=[]):l.all bg=true:=by
 unfold iO at h;have h:l.reverse.dropWhile bg=[]:=by simpa using h
 rw[dropWhile_nil] at h;rw[Ej];exact fun x hx=>h x (by simpa using hx)
theorem Xy(l:List UInt8):(iO l).dropWhile bg=[]↔l.all bg=true:=by
 constructor
 .intro h;by_cases h0:iO l=[]
  .exact T9 l h0
  .
   exfalso;unfold iO at h h0;have hne:l.reverse.dropWhile bg≠[]:=by simpa using h0
   rw[dropWhile_nil] at h
   cases hx:l.reverse.dropWhile bg with
   | nil=>exact hne hx
   | cons c t =>
    have hc:bg c=true:=h c (by rw[hx];simp);have:=rU bg _ c t hx;rw[hc] at this;cases this
 .intro h;rw[SA l h];rfl
def Plain.lY(l:List UInt8):Bool:=!l.isEmpty&&l.all bg
theorem BR(l:List UInt8)(w:World)(hl:l.length<=140737488355328):Calls qp0 222 #[.string ⟨l.toArray⟩] w fun e w'=>e=.returned (.bool (Plain.lY l))/\Below w.heap.size w w':=by
 by_cases h0:l=[]
 .subst h0;go_enter func222,ntmps222;go_wp2
  go_ret;exact⟨rfl,Below.refl _ _⟩
 .have Zw:l.isEmpty=false:=by simpa using h0
  have HT:=ah (L9 l w hl);have ht:=Xy l;have hr:Plain.lY l=l.all bg:=by simp[Plain.lY,Zw]
  rw[hr];generalize (iO l).dropWhile bg=R at HT ht;have hb:decide (R=[])=l.all bg:=by
   rw[qbG];simpa using ht
  rw[<-hb];clear hb hr ht;go_enter func222,ntmps222;go_wp2_with (go_at_call 224;refine(HT.out).mono ?_;rintro e w1 ⟨rfl,hw⟩;have HW:=ah hw;clear hw)
  go_ret;refine⟨?_,HW.out⟩
  cases R <;> rfl
namespace Plain
def iU(part:List UInt8):List UInt8:=(part++List.replicate 9 48).take 9
def vN(minus:Bool)(sec nano:Int)(more:Bool):Int×Int :=
 if minus=true then(if 0<(if more=true then nano+1 else nano) then(-sec - 1,1000000000-(if more=true then nano+1 else nano)) else(-sec,0)) else(sec,nano)
def vY(part:List UInt8):Bool:=decide (9<part.length)&&!(Lib.trimB (part.drop 9) 48).isEmpty
def jv(l:List UInt8):(Int×Int)×Int :=
 if 64<l.length then((0,0),21) else
 if ((Lib.cut (Lib.trimPrefix l [45]) [46]).2.2&&!lY (Lib.cut (Lib.trimPrefix l [45]) [46]).2.1)||!lY (Lib.cut (Lib.trimPrefix l [45]) [46]).1 then((0,0),20) else
 if (decimal (Lib.cut (Lib.trimPrefix l [45]) [46]).1).2=10 then((0,0),20) else
 if (decimal (Lib.cut (Lib.trimPrefix l [45]) [46]).1).2≠0\/1099511627776<(decimal (Lib.cut (Lib.trimPrefix l [45]) [46]).1).1 then((0,0),11) else
 let t:=vN (Lib.hasPrefix l [45]) (decimal (Lib.cut (Lib.trimPrefix l [45]) [46]).1).1 (bD 0 (iU (Lib.cut (Lib.trimPrefix l [45]) [46]).2.1)) (vY (Lib.cut (Lib.trimPrefix l [45]) [46]).2.1)
 if valid t.1 t.2=true then(t,0) else((0,0),11)
theorem vS(part:List UInt8):(iU part).length=9:=by simp[iU]
theorem Dh(part:List UInt8)(h:part.all bg=true):(iU part).all bg=true:=by
 rw[Ej] at h ⊢;intro x hx;unfold iU at hx;rcases UY.1 (qbY hx) with hx|hx
 .exact h x hx
 .rw[List.mem_replicate] at hx;rw[hx.2];rfl
theorem zS:∀ (l:List UInt8)(acc:Nat),l.all bg=true->Lib.decFrom acc l=some (bD acc l)
 | [],acc,_=>rfl
 | c::l,acc,h=>by
  rw[JJ,fE,jy] at h;rw[Lib.decFrom,Lib.digitVal,if_pos h.1,lJ];exact zS l _ h.2
theorem Xv(l:List UInt8)(hne:l≠[])(h:l.all bg=true):Lib.atoi l=some (bD 0 l:Nat):=by
 cases l with
 | nil=>exact absurd rfl hne
 | cons c l =>
  have hd:=h;rw[JJ,fE,jy] at hd;have h1:(c==45)=false:=by
   rw[beq_eq_false_iff_ne];rintro rfl;have:=hd.1.1;revert this;decide
  have h2:(c==43)=false:=by
   rw[beq_eq_false_iff_ne];rintro rfl;have:=hd.1.1;revert this;decide
  simp only[Lib.atoi,h1,h2,jI,if_false,Lib.decNat,List.isEmpty_cons,zS (c::l) 0 h,MK];rfl
theorem FX:∀ (l:List UInt8)(acc:Nat),l.all bg=true->bD acc l<(acc+1)*10^l.length
 | [],acc,_=>by rw[qF];simp
 | c::l,acc,h=>by
  rw[JJ,fE,jy] at h;rw[lJ];have:=FX l (acc*10+(c.toNat - 48)) h.2;have h2:acc*10+(c.toNat - 48)+1<=(acc+1)*10:=by omega
  calc bD (acc*10+(c.toNat - 48)) l<(acc*10+(c.toNat - 48)+1)*10^l.length:=this
   _<=((acc+1)*10)*10^l.length:=qbX _ h2
   _=(acc+1)*10^(c::l).length:=by rw[oH,qbN,Nat.mul_assoc,Nat.mul_comm 10]
theorem aaJ(part:List UInt8)(h:part.all bg=true):bD 0 (iU part)<1000000000:=by
 have:=FX (iU part) 0 (Dh part h);rw[vS] at this;exact this
theorem OP{l:List UInt8}(h:lY l=true):l.all bg=true:=by
 unfold lY at h;rw[fE] at h;exact h.2
def latest(l:List Pr)(key:List UInt8):Option (List UInt8):=l.foldl (fun o p=>if p.1==key then some p.2 else o) none
theorem ou(l:List Pr)(p:Pr)(key:List UInt8):latest (l++[p]) key=if p.1==key then some p.2 else latest l key:=by
 simp[latest,qbd]
end Plain
def En.none:En:=⟨0,[],[],0,0,0,[],[],0,0,[]⟩
def yE:List UInt8:=[115,105,122,101]
def wP:List UInt8:=[71,78,85,46,115,112,97,114,115,101,46]
namespace Plain
def found(g l:List Pr)(k:List UInt8):List UInt8×Bool :=
 match latest l k with
 | some v=>(v,!v.isEmpty)
 | none=>((latest g k).getD [],false)
def lG(g l:List Pr)(k long plain:List UInt8):List UInt8 :=
 if (found g l k).2=true then(found g l k).1 else if long≠[] then long else if (found g l k).1≠[] then(found g l k).1 else plain
def sparse(l:List Pr):Bool:=l.any fun p=>Lib.hasPrefix p.1 wP
def xq(g l:List Pr)(k:List UInt8)(plain most:Int):Int×Bool :=
 if (found g l k).1=[] then(plain,true) else((decimal (found g l k).1).1,decide ((decimal (found g l k).1).2=0)&&decide ((decimal (found g l k).1).1<=most))
def QH(g l:List Pr)(mt:Int):(Int×Int)×Int:=if (found g l qO).1=[] then((mt,0),0) else jv (found g l qO).1
def oo(ty:UInt8)(name:List UInt8):Int:=if ty=48 then(if Lib.hasSuffix name [47]=true then 2 else 1) else if ty=49 then 4 else if ty=50 then 3 else if ty=53 then 2 else 5
def gG(h:Hd)(g l:List Pr)(ln lr:List UInt8):En×Int×Int :=
 if h.ty<48\/54<h.ty then(En.none,0,73) else
 if sparse g||sparse l then(En.none,0,61) else
 if (xq g l yE h.size 9223372036854775807).2&&(xq g l J7 h.uid 2147483647).2&&(xq g l LY h.gid 2147483647).2 then
  if (QH g l h.mtime).2≠0 then(En.none,0,60) else
  ({
   kind:=oo h.ty (lG g l kr ln h.name),name:=lG g l kr ln h.name,link:=if h.ty=49\/h.ty=50 then lG g l mF lr h.link else[],mode:=bits .and .i64 h.mode 4095,
   uid:=(xq g l J7 h.uid 2147483647).1,gid:=(xq g l LY h.gid 2147483647).1,user:=lG g l lZ [] h.user,group:=lG g l lX [] h.group,
   sec:=(QH g l h.mtime).1.1,nano:=(QH g l h.mtime).1.2,data:=[]},if h.ty=48 then(xq g l yE h.size 9223372036854775807).1 else 0,0)
 else(En.none,0,60)
abbrev Lv:=List UInt8->Option (List UInt8)
def yc(m:Lv)(p:Pr):Lv:=fun y=>if y=p.1 then(if p.2=[] then Option.none else some p.2) else m y
def vw(m:Lv)(p:Pr):Lv:=fun y=>if p.2=[]/\y=p.1 then Option.none else m y
def lays(m:Lv)(l:List Pr):Lv:=l.foldl yc m
def hides(m:Lv)(l:List Pr):Lv:=l.foldl vw m
def JN:Lv:=fun _=>Option.none
theorem Gu(m:Lv)(l:List Pr)(p:Pr):lays m (l++[p])=yc (lays m l) p:=by simp[lays,qbd]
theorem vF(m:Lv)(l:List Pr)(p:Pr):hides m (l++[p])=vw (hides m l) p:=by simp[hides,qbd]
theorem yH(m:Lv)(l:List Pr)(k:Nat)(h:k<l.length):lays m (l.take (k+1))=yc (lays m (l.take k)) (l.getD k ([],[])):=by
 rw[Nh h,Gu];simp[List.getD,kM h]
theorem Dp(m:Lv)(l:List Pr)(k:Nat)(h:k<l.length):hides m (l.take (k+1))=vw (hides m (l.take k)) (l.getD k ([],[])):=by
 rw[Nh h,vF];simp[List.getD,kM h]
def full(v:List UInt8):Option (List UInt8):=if v=[] then Option.none else some v
theorem yA{α:Type}{C:List α->Prop}(h0:C [])(h1:∀ l x,C l->C (l++[x]))(l:List α):C l:=by
 have:∀ m:List α,C m.reverse:=by
  intro m
  induction m with
  | nil=>exact h0
  | cons x m ih=>rw[List.reverse_cons];exact h1 _ _ ih
 have h:=this l.reverse
 rwa [qcs] at h
theorem Mi(m:Lv)(l:List Pr)(k:List UInt8):lays m l k=(match latest l k with|some v=>full v|Option.none=>m k):=by
 induction l using yA with
 | h0=>rfl
 | h1 l p ih =>
  rw[Gu,ou];unfold yc;by_cases hk:k=p.1
  .subst hk;simp[full]
  .have:(p.1==k)=false:=by rw[beq_eq_false_iff_ne];exact fun e=>hk e.symm
   rw[if_neg hk,this,ih];rfl
theorem Oi(m:Lv)(l:List Pr)(k:List UInt8)(h:latest l k=Option.none):hides m l k=m k:=by
 induction l using yA with
 | h0=>rfl
 | h1 l p ih =>
  rw[ou] at h;by_cases hk:(p.1==k)=true
  .rw[if_pos hk] at h;cases h
  .rw[if_neg hk] at h;rw[vF];unfold vw;rw[if_neg,ih h];rintro⟨_,e⟩;exact hk (by rw[e];exact beq_self_eq_true _)
theorem Tp(m:Lv)(l:List Pr)(k:List UInt8)(h:latest l k=some []):hides m l k=Option.none:=by
 induction l using yA with
 | h0=>cases h
 | h1 l p ih =>
  rw[ou] at h;rw[vF];unfold vw;by_cases hk:(p.1==k)=true
  .rw[if_pos hk] at h;rw[if_pos ⟨by simpa using h,(beq_iff_eq.1 hk).symm⟩]
  .rw[if_neg hk] at h;split
   .rfl
   .exact ih h
def JF(m0 m1 m2 m3:Lv)(k:List UInt8):Option (List UInt8) :=
 match m3 k with
 | some v=>some v
 | Option.none=>match m2 k with
  | some v=>some v
  | Option.none=>match m1 k with
   | some v=>some v
   | Option.none=>m0 k
theorem Ea(m0 m2:Lv)(g l:List Pr)(k:List UInt8):JF m0 (hides (lays JN g) l) m2 (lays JN l) k =
  if (found g l k).2=true then some (found g l k).1 else match m2 k with|some v=>some v|Option.none=>if (found g l k).1≠[] then some (found g l k).1 else m0 k:=by
 unfold JF found;rw[Mi]
 cases hl:latest l k with
 | some v =>
  by_cases hv:v=[]
  .subst hv;simp only[full,if_pos,Tp _ _ _ hl,List.isEmpty_nil,qb1,jI,if_false,ne_eq,not_true]
  .have:v.isEmpty=false:=by simpa using hv
   simp only[full,if_neg hv,this,qb9,if_true]
 | none =>
  simp only[JN,Oi _ _ _ hl,Mi,jI,if_false]
  cases m2 k with
  | some v=>rfl
  | none =>
   cases hg:latest g k with
   | none=>simp
   | some v =>
    by_cases hv:v=[]
    .subst hv;simp[full]
    .simp[full,hv]
def adw(h:Hd):Lv:=lays JN [(kr,h.name),(mF,h.link),(lZ,h.user),(lX,h.group)]
def ad3(ln lr:List UInt8):Lv:=lays JN [(kr,ln),(mF,lr)]
def jB(h:Hd)(g l:List Pr)(ln lr k:List UInt8):Option (List UInt8):=JF (adw h) (hides (lays JN g) l) (ad3 ln lr) (lays JN l) k
theorem xA(g l:List Pr)(k long plain:List UInt8)(m0 m2:Lv)(h0:m0 k=full plain)(h2:m2 k=full long):(JF m0 (hides (lays JN g) l) m2 (lays JN l) k).getD []=lG g l k long plain:=by
 rw[Ea,h0,h2];unfold lG full;generalize found g l k=r;obtain⟨v,b⟩:=r
 cases b with
 | true=>rfl
 | false =>
  simp only[jI,if_false]
  cases long with
  | cons c t=>simp
  | nil =>
   cases v with
   | cons c t=>simp
   | nil=>cases plain <;> simp
theorem Pf(h:Hd)(g l:List Pr)(ln lr:List UInt8):(jB h g l ln lr kr).getD []=lG g l kr ln h.name :=xA g l kr ln h.name _ _ rfl rfl
theorem Og(h:Hd)(g l:List Pr)(ln lr:List UInt8):(jB h g l ln lr mF).getD []=lG g l mF lr h.link :=xA g l mF lr h.link _ _ rfl rfl
theorem Lc(h:Hd)(g l:List Pr)(ln lr:List UInt8):(jB h g l ln lr lZ).getD []=lG g l lZ [] h.user :=xA g l lZ [] h.user _ _ rfl rfl
theorem JZ(h:Hd)(g l:List Pr)(ln lr:List UInt8):(jB h g l ln lr lX).getD []=lG g l lX [] h.group :=xA g l lX [] h.group _ _ rfl rfl
theorem sW(h:Hd)(g l:List Pr)(ln lr k:List UInt8)(h0:adw h k=Option.none)(h2:ad3 ln lr k=Option.none):jB h g l ln lr k=full (found g l k).1:=by
 unfold jB;rw[Ea,h0,h2];unfold full found
 cases hl:latest l k with
 | some v=>cases v <;> rfl
 | none =>
  simp only[jI,if_false,ne_eq];generalize (latest g k).getD []=v
  cases v <;> simp
theorem OC(h:Hd)(g l:List Pr)(ln lr:List UInt8):jB h g l ln lr yE=full (found g l yE).1:=sW h g l ln lr yE rfl rfl
theorem SN(h:Hd)(g l:List Pr)(ln lr:List UInt8):jB h g l ln lr J7=full (found g l J7).1:=sW h g l ln lr J7 rfl rfl
theorem Uu(h:Hd)(g l:List Pr)(ln lr:List UInt8):jB h g l ln lr LY=full (found g l LY).1:=sW h g l ln lr LY rfl rfl
theorem Li(h:Hd)(g l:List Pr)(ln lr:List UInt8):jB h g l ln lr qO=full (found g l qO).1:=sW h g l ln lr qO rfl rfl
end Plain
structure kG where
 name:Int
 iP:Int
structure bW where
 glob:List Pr
 loc:List Pr
 zk:Int
 ln:List UInt8
 lr:List UInt8
 held:Int
def bW.zero:bW:=⟨[],[],0,[],[],0⟩
inductive abe where
 | stop (code:Int) (off:Nat)
 | ext (s:bW) (next:Nat)
 | ent (e:En) (s:bW) (next:Nat)
namespace Plain
def iZ(l:List Pr):Int:=(l.map fun p=>(jO p:Int)).sum
def there(data:List UInt8)(o:Nat)(n:Int):Bool:=decide (span n<=((data.length-o:Nat):Int) / 512)
def pend(s:bW):Bool:=decide (0<s.zk)||!s.ln.isEmpty||!s.lr.isEmpty
def qN(s:bW):Int:=iZ s.glob+s.zk+s.ln.length+s.lr.length
def GA(s:bW):bW:={s with held:=max s.held (qN s)}
def F8(kept:List Pr)(p:Pr):List Pr:=(kept.filter fun q=>!(q.1==p.1))++(if p.2=[] then[] else[p])
def merge(kept more:List Pr):List Pr:=more.foldl F8 kept
theorem OX(kept more:List Pr)(p:Pr):merge kept (more++[p])=F8 (merge kept more) p:=by simp[merge,qbd]
theorem El(kept l:List Pr)(k:Nat)(h:k<l.length):merge kept (l.take (k+1))=F8 (merge kept (l.take k)) (l.getD k ([],[])):=by
 rw[Nh h,OX];simp[List.getD,kM h]
def recs(data:List UInt8)(lim:kG)(o:Nat)(size:Int):Except Int (List Pr) :=
 if lim.iP<size then .error 74 else if there data o size=false then .error 70 else if size=0 then .error 50 else
 match read (eH data o (o+size.toNat)) with
 | none=>.error 50
 | some ps=>.ok ps
def Rt(data:List UInt8)(lim:kG)(o:Nat)(h:Hd)(s:bW):Except Int bW :=
 if 0<s.zk then .error 76 else match recs data lim o h.size with
  | .error c=>.error c
  | .ok ps=>.ok (GA {s with loc:=ps,zk:=h.size})
def Ui(data:List UInt8)(lim:kG)(o:Nat)(h:Hd)(s:bW):Except Int bW :=
 if pend s=true then .error 77 else match recs data lim o h.size with
  | .error c=>.error c
  | .ok ps=>if lim.iP<iZ (merge s.glob ps) then .error 74 else .ok (GA {s with glob:=merge s.glob ps})
def oJ(s:bW)(ty:UInt8):List UInt8:=if ty=76 then s.ln else s.lr
def dD(s:bW)(ty:UInt8)(t:List UInt8):bW:=if ty=76 then {s with ln:=t} else {s with lr:=t}
def Tg(data:List UInt8)(lim:kG)(o:Nat)(h:Hd)(s:bW):Except Int bW :=
 if oJ s h.ty≠[] then .error 76 else if lim.name+1<h.size then .error 75 else if there data o h.size=false then .error 70 else
 let t:=text (eH data o (o+h.size.toNat))
 if t=[]\/lim.name<t.length then .error 75 else .ok (GA (dD s h.ty t))
def extend(data:List UInt8)(lim:kG)(o:Nat)(h:Hd)(s:bW):Except Int bW :=
 if h.ty=120 then Rt data lim o h s else if h.ty=103 then Ui data lim o h s else Tg data lim o h s
def entry(data:List UInt8)(o:Nat)(h:Hd)(s:bW):Except Int (En×Int) :=
 let r:=gG h s.glob s.loc s.ln s.lr
 if r.2.2≠0 then .error r.2.2 else if there data o r.2.1=false then .error 70 else
 .ok ({r.1 with data:=if r.1.kind=1 then eH data o (o+r.2.1.toNat) else[]},r.2.1)
def clean(s:bW):bW:={s with loc:=[],zk:=0,ln:=[],lr:=[]}
def finish(data:List UInt8)(o:Nat)(s:bW):Int×Nat :=
 if pend s=true then(77,o) else if data.length-(o+512)<512 then(71,o) else if eH data (o+512) (o+1024)≠cZ then(72,o) else(0,o+1024)
def lH(ty:UInt8):Bool:=decide (ty=120\/ty=103\/ty=76\/ty=75)
def next(o:Nat)(size:Int):Nat:=o+512*(1+span size).toNat
def gH(data:List UInt8)(lim:kG)(o:Nat)(s:bW):abe :=
 if data.length-o=0 then .stop 71 o else if data.length-o<512 then .stop 70 o else
 let r:=hread (eH data o (o+512))
 if r.2=40 then .stop (finish data o s).1 (finish data o s).2 else if r.2≠0 then .stop r.2 o else
 if lH r.1.ty=true then(match extend data lim (o+512) r.1 s with|.error c=>.stop c o|.ok s'=>.ext s' (next o r.1.size))
 else if 48<=r.1.ty/\r.1.ty<=54 then(match entry data (o+512) r.1 s with|.error c=>.stop c o|.ok (e,size)=>.ent e (clean s) (next o size))
 else .stop 73 o
structure Pz where
 ents:List En
 code:Int
 off:Nat
 held:Int
def fC(data:List UInt8)(lim:kG):Nat->Nat->bW->Pz
 | 0,o,s=>⟨[],71,o,s.held⟩
 | f+1,o,s=>match gH data lim o s with
  | .stop c off=>⟨[],c,off,s.held⟩
  | .ext s' n=>fC data lim f n s'
  | .ent e s' n=>let r:=fC data lim f n s';{r with ents:=e::r.ents}
def eT(lim:kG):Bool:=decide (1<=lim.name/\lim.name<=4096/\0<=lim.iP/\lim.iP<=1048576)
def Qy:Pz:=⟨[],78,0,0⟩
def jA(data:List UInt8)(lim:kG):Pz:=if eT lim=true then fC data lim (data.length+1) 0 bW.zero else Qy
end Plain
def abe.top:abe->Option Nat
 | .stop c off=>if c=0 then some off else none
 | .ext _ n=>some n
 | .ent _ _ n=>some n
namespace Plain
theorem gy(n:Int):0<=span n:=by unfold span;split <;> omega
theorem Bl(n:Int):n<=512*span n:=by unfold span;split <;> omega
theorem ajd(c more:List UInt8)(a b:Nat)(h:b<=c.length):eH (c++more) a b=eH c a b:=by
 unfold eH;rw[List.take_append_of_le_length h]
theorem tX(d:List UInt8)(o:Nat)(n:Int):there d o n=true↔span n<=((d.length-o:Nat):Int) / 512:=by unfold there;simp
theorem Lr(d:List UInt8)(o:Nat)(n:Int):there d o n=false↔((d.length-o:Nat):Int) / 512<span n:=by unfold there;simp
theorem xU{d:List UInt8}{o:Nat}{n:Int}(ho:o<=d.length)(h:there d o n=true):o+n.toNat<=d.length:=by
 rw[tX] at h;have:=Bl n;omega
theorem ajf{c:List UInt8}(more:List UInt8){o:Nat}{n:Int}(h:there c o n=true):there (c++more) o n=true:=by
 rw[tX] at h ⊢;rw[vG];omega
theorem Rk(o:Nat)(n:Int):o+512<=next o n:=by unfold next;have:=gy n;omega
theorem aju{d:List UInt8}{o:Nat}{n:Int}(h:there d (o+512) n=false):d.length<next o n:=by
 rw[Lr] at h;unfold next
 have:=gy n;omega
theorem Bg{d:List UInt8}{o:Nat}{n:Int}(ho:o+512<=d.length)(h:there d (o+512) n=true):next o n<=d.length:=by
 rw[tX] at h;unfold next
 have:=gy n;omega
def jw(c:Int):Prop:=c=50\/c=60\/c=61\/c=70\/c=73\/c=74\/c=75\/c=76\/c=77
theorem Ka{d:List UInt8}{lim:kG}{o:Nat}{n:Int}{c:Int}(h:recs d lim o n=.error c):jw c:=by
 unfold recs at h;unfold jw;split at h
 .cases h;simp
 .split at h
  .cases h;simp
  .split at h
   .cases h;simp
   .split at h
    .cases h;simp
    .cases h
theorem Et{d:List UInt8}{lim:kG}{o:Nat}{h:Hd}{s:bW}{c:Int}(he:extend d lim o h s=.error c):jw c:=by
 unfold extend at he;split at he
 .unfold Rt at he;split at he
  .cases he;simp[jw]
  .split at he
   .rename_i hr;cases he;exact Ka hr
   .cases he
 .split at he
  .unfold Ui at he;split at he
   .cases he;simp[jw]
   .split at he
    .rename_i hr;cases he;exact Ka hr
    .split at he
     .cases he;simp[jw]
     .cases he
  .unfold Tg at he;split at he
   .cases he;simp[jw]
   .split at he
    .cases he;simp[jw]
    .split at he
     .cases he;simp[jw]
     .simp only at he;split at he
      .cases he;simp[jw]
      .cases he
theorem Pq(h:Hd)(g l:List Pr)(ln lr:List UInt8):(gG h g l ln lr).2.2=0\/jw (gG h g l ln lr).2.2:=by
 unfold gG;split
 .right;simp[jw]
 .split
  .right;simp[jw]
  .split
   .split
    .right;simp[jw]
    .left;rfl
   .right;simp[jw]
theorem GX{d:List UInt8}{o:Nat}{h:Hd}{s:bW}{c:Int}(he:entry d o h s=.error c):jw c:=by
 unfold entry at he;simp only at he;split at he
 .rename_i hne
  cases he
  exact(Pq h s.glob s.loc s.ln s.lr).resolve_left hne
 .split at he
  .cases he;simp[jw]
  .cases he
theorem jw.ne{c:Int}(h:jw c):c≠0/\c≠71/\c≠78/\c≠40:=by unfold jw at h;omega
theorem ajn(c more:List UInt8)(lim:kG)(o:Nat)(n:Int)(ho:o<=c.length):recs (c++more) lim o n=recs c lim o n\/(recs c lim o n=.error 70/\there c o n=false):=by
 unfold recs;by_cases h1:lim.iP<n
 .left;simp only[if_pos h1]
 .simp only[if_neg h1]
  cases h2:there c o n with
  | false=>right;simp
  | true =>
   left
   rw[ajf more h2,ajd _ _ _ _ (xU ho h2)]
theorem ajJ(c more:List UInt8)(lim:kG)(o:Nat)(h:Hd)(s:bW)(ho:o<=c.length):Rt (c++more) lim o h s=Rt c lim o h s\/(Rt c lim o h s=.error 70/\there c o h.size=false):=by
 unfold Rt;split
 .exact .inl rfl
 .rcases ajn c more lim o h.size ho with e|⟨e,h2⟩
  .rw[e];exact .inl rfl
  .right;rw[e];exact⟨rfl,h2⟩
theorem ajD(c more:List UInt8)(lim:kG)(o:Nat)(h:Hd)(s:bW)(ho:o<=c.length):Ui (c++more) lim o h s=Ui c lim o h s\/(Ui c lim o h s=.error 70/\there c o h.size=false):=by
 unfold Ui;split
 .exact .inl rfl
 .rcases ajn c more lim o h.size ho with e|⟨e,h2⟩
  .rw[e];exact .inl rfl
  .right;rw[e];exact⟨rfl,h2⟩
theorem ajC(c more:List UInt8)(lim:kG)(o:Nat)(h:Hd)(s:bW)(ho:o<=c.length):Tg (c++more) lim o h s=Tg c lim o h s\/(Tg c lim o h s=.error 70/\there c o h.size=false):=by
 unfold Tg;split
 .exact .inl rfl
 .split
  .exact .inl rfl
  .cases h2:there c o h.size with
   | false=>right;simp
   | true =>
    left
    rw[ajf more h2,ajd _ _ _ _ (xU ho h2)]
theorem ajp(c more:List UInt8)(lim:kG)(o:Nat)(h:Hd)(s:bW)(ho:o<=c.length):extend (c++more) lim o h s=extend c lim o h s\/(extend c lim o h s=.error 70/\there c o h.size=false):=by
 unfold extend;split
 .exact ajJ c more lim o h s ho
 .split
  .exact ajD c more lim o h s ho
  .exact ajC c more lim o h s ho
theorem ajz(c more:List UInt8)(o:Nat)(h:Hd)(s:bW)(ho:o<=c.length):entry (c++more) o h s=entry c o h s\/(entry c o h s=.error 70/\∀ e n,entry (c++more) o h s=.ok (e,n)->there c o n=false):=by
 unfold entry;simp only
 split
 .exact .inl rfl
 .cases h2:there c o (gG h s.glob s.loc s.ln s.lr).2.1 with
  | false =>
   right
   refine⟨by simp,fun e n he=>?_⟩;split at he
   .cases he
   .simp only[qcq,MV] at he;rw[<-he.2];exact h2
  | true =>
   left
   rw[ajf more h2,ajd _ _ _ _ (xU ho h2)]
theorem aje(c more:List UInt8)(lim:kG)(o:Nat)(s:bW)(ho:o<=c.length):gH (c++more) lim o s=gH c lim o s\/((∃ code,(code=70\/code=71)/\gH c lim o s=.stop code o)/\∀ n,(gH (c++more) lim o s).top=some n->c.length<n):=by
 by_cases h1:c.length-o<512
 .right
  refine⟨?_,fun n hn=>?_⟩
  .unfold gH;by_cases h0:c.length-o=0
   .rw[if_pos h0];exact⟨71,.inr rfl,rfl⟩
   .rw[if_neg h0,if_pos h1];exact⟨70,.inl rfl,rfl⟩
  .suffices o+512<=n by omega
   revert hn;unfold gH finish;simp only
   split
   .simp[abe.top]
   .split
    .simp[abe.top]
    .split
     .split
      .simp[abe.top]
      .split
       .simp[abe.top]
       .split
        .simp[abe.top]
        .simp[abe.top];omega
     .split
      .rename_i hne;simp[abe.top,hne]
      .split
       .split
        .rename_i he;simp[abe.top,(Et he).ne.1]
        .simp only[abe.top,Ba];rintro rfl;exact Rk _ _
       .split
        .split
         .rename_i he;simp[abe.top,(GX he).ne.1]
         .simp only[abe.top,Ba];rintro rfl;exact Rk _ _
        .simp[abe.top]
 .have hl:(c++more).length=c.length+more.length:=vG;have hf:eH (c++more) o (o+512)=eH c o (o+512):=ajd _ _ _ _ (by omega);unfold gH;rw[if_neg (by omega:¬ (c++more).length-o=0),if_neg (by omega:¬ (c++more).length-o<512),if_neg (by omega:¬ c.length-o=0),if_neg h1,hf];simp only
  generalize hread (eH c o (o+512))=r;by_cases U1:r.2=40
  .simp only[if_pos U1];unfold finish;by_cases hp:pend s=true
   .left;simp only[if_pos hp]
   .simp only[if_neg hp];by_cases h2:c.length-(o+512)<512
    .right
     simp only[if_pos h2];refine⟨⟨71,.inr rfl,rfl⟩,fun n=>?_⟩;split
     .simp[abe.top]
     .split
      .simp[abe.top]
      .simp[abe.top];omega
    .left
     have h3:¬ (c++more).length-(o+512)<512:=by rw[hl];clear U1 hf;omega
     have h4:o+1024<=c.length:=by clear U1 hf h3;omega
     rw[if_neg h3,if_neg h2,ajd c more (o+512) (o+1024) h4]
  .simp only[if_neg U1];by_cases hr0:r.2≠0
   .left;simp only[if_pos hr0]
   .simp only[if_neg hr0];by_cases hx:lH r.1.ty=true
    .simp only[if_pos hx];rcases ajp c more lim (o+512) r.1 s (by omega) with e|⟨e,ht⟩
     .left;rw[e]
     .right
      rw[e];refine⟨⟨70,.inl rfl,rfl⟩,fun n=>?_⟩;split
      .rename_i c' hc'
       simp[abe.top,(Et hc').ne.1]
      .simp only[abe.top,Ba];rintro rfl;exact aju ht
    .simp only[if_neg hx];by_cases hy:48<=r.1.ty/\r.1.ty<=54
     .simp only[if_pos hy];rcases ajz c more (o+512) r.1 s (by omega) with e|⟨e,ht⟩
      .left;rw[e]
      .right
       rw[e];refine⟨⟨70,.inl rfl,rfl⟩,fun n=>?_⟩;split
       .rename_i hc'
        simp[abe.top,(GX hc').ne.1]
       .rename_i e' size he
        simp only[abe.top,Ba];rintro rfl;exact aju (ht _ _ he)
     .left;simp only[if_neg hy]
def adp:abe->Nat->Prop
 | .stop _ _,_=>False
 | .ext _ n,m=>n=m
 | .ent _ _ n,m=>n=m
theorem yC{d:List UInt8}{lim:kG}{o:Nat}{h:Hd}{s s':bW}(he:extend d lim o h s=.ok s'):there d o h.size=true:=by
 have hrec:∀ {n:Int}{ps:List Pr},recs d lim o n=.ok ps->there d o n=true:=by
  intro n ps hr;unfold recs at hr;split at hr
  .cases hr
  .split at hr
   .cases hr
   .rename_i h2;simpa using h2
 unfold extend at he;split at he
 .unfold Rt at he;split at he
  .cases he
  .split at he
   .cases he
   .rename_i hr;exact hrec hr
 .split at he
  .unfold Ui at he;split at he
   .cases he
   .split at he
    .cases he
    .rename_i hr;exact hrec hr
  .unfold Tg at he;split at he
   .cases he
   .split at he
    .cases he
    .split at he
     .cases he
     .rename_i h2;simpa using h2
theorem r9{d:List UInt8}{o:Nat}{h:Hd}{s:bW}{e:En}{n:Int}(he:entry d o h s=.ok (e,n)):there d o n=true:=by
 unfold entry at he;simp only at he;split at he
 .cases he
 .split at he
  .cases he
  .rename_i h2
   simp only[qcq,MV] at he;rw[<-he.2];simpa using h2
theorem pK(d:List UInt8)(lim:kG)(o:Nat)(s:bW)(ho:o<=d.length):(∀ c off,gH d lim o s=.stop c off->(off=o/\c≠0/\c≠78/\(c=71->o=d.length\/o+512<=d.length))\/(c=0/\off=o+1024/\off<=d.length/\eH d o (o+512)=cZ/\eH d (o+512) (o+1024)=cZ)) /\ (∀ m,adp (gH d lim o s) m->o+512<=m/\m<=d.length/\∃ n:Int,m=next o n):=by
 unfold gH;by_cases h0:d.length-o=0
 .rw[if_pos h0];refine⟨fun c off he=>?_,fun m hm=>hm.elim⟩
  cases he
  left;refine⟨rfl,by decide,by decide,fun _=>.inl (by omega)⟩
 .rw[if_neg h0];by_cases h1:d.length-o<512
  .rw[if_pos h1];refine⟨fun c off he=>?_,fun m hm=>hm.elim⟩
   cases he
   left;exact⟨rfl,by decide,by decide,fun h=>absurd h (by decide)⟩
  .rw[if_neg h1];simp only
   by_cases U1:(hread (eH d o (o+512))).2=40
   .rw[if_pos U1];refine⟨fun c off he=>?_,fun m hm=>hm.elim⟩;simp only[abe.stop.injEq] at he;obtain⟨e1,e2⟩:=he;unfold finish at e1 e2;have hz:eH d o (o+512)=cZ:=by
     revert U1;unfold hread;split
     .intro _;assumption
     .split
      .intro h;exact absurd h (show ¬ (41:Int)=40 by decide)
      .split
       .intro h;exact absurd h (show ¬ (42:Int)=40 by decide)
       .intro h;exact absurd h (show ¬ (0:Int)=40 by decide)
    by_cases hp:pend s=true
    .rw[if_pos hp] at e1 e2;simp only at e1 e2;subst e1 e2
     left;exact⟨rfl,by decide,by decide,fun h=>absurd h (by decide)⟩
    .rw[if_neg hp] at e1 e2;by_cases h2:d.length-(o+512)<512
     .rw[if_pos h2] at e1 e2;simp only at e1 e2;subst e1 e2
      left;exact⟨rfl,by decide,by decide,fun _=>.inr (by omega)⟩
     .rw[if_neg h2] at e1 e2;by_cases h3:eH d (o+512) (o+1024)≠cZ
      .rw[if_pos h3] at e1 e2;simp only at e1 e2;subst e1 e2
       left;exact⟨rfl,by decide,by decide,fun h=>absurd h (by decide)⟩
      .rw[if_neg h3] at e1 e2;simp only at e1 e2;subst e1 e2
       right;exact⟨rfl,rfl,by omega,hz,qcb.1 h3⟩
   .rw[if_neg U1];by_cases hr0:(hread (eH d o (o+512))).2≠0
    .rw[if_pos hr0];refine⟨fun c off he=>?_,fun m hm=>hm.elim⟩;simp only[abe.stop.injEq] at he;obtain⟨e1,e2⟩:=he
     left
     have hc:c=41\/c=42:=by
      rw[<-e1];revert U1 hr0;unfold hread;split
      .intro h;exact absurd rfl h
      .split
       .intros;left;rfl
       .split
        .intros;right;rfl
        .intro _ h;exact absurd rfl h
     exact⟨e2.symm,by omega,by omega,fun h=>by omega⟩
    .rw[if_neg hr0];generalize hread (eH d o (o+512))=r;by_cases hx:lH r.1.ty=true
     .rw[if_pos hx]
      cases he:extend d lim (o+512) r.1 s with
      | error c' =>
       refine⟨fun c off h=>?_,fun m hm=>hm.elim⟩
       cases h
       have:=(Et he).ne
       left;exact⟨rfl,this.1,this.2.2.1,fun h=>absurd h this.2.1⟩
      | ok s' =>
       refine⟨fun c off h=>(by cases h),fun m hm=>?_⟩;obtain rfl:next o r.1.size=m:=hm
       exact⟨Rk _ _,Bg (by omega) (yC he),_,rfl⟩
     .rw[if_neg hx];by_cases hy:48<=r.1.ty/\r.1.ty<=54
      .rw[if_pos hy]
       cases he:entry d (o+512) r.1 s with
       | error c' =>
        refine⟨fun c off h=>?_,fun m hm=>hm.elim⟩
        cases h
        have:=(GX he).ne
        left;exact⟨rfl,this.1,this.2.2.1,fun h=>absurd h this.2.1⟩
       | ok p =>
        obtain⟨e,n⟩:=p;refine⟨fun c off h=>(by cases h),fun m hm=>?_⟩;obtain rfl:next o n=m:=hm
        exact⟨Rk _ _,Bg (by omega) (r9 he),_,rfl⟩
      .rw[if_neg hy];refine⟨fun c off he=>?_,fun m hm=>hm.elim⟩
       cases he
       left;exact⟨rfl,by decide,by decide,fun h=>absurd h (by decide)⟩
theorem tO(d:List UInt8)(lim:kG):∀ (f f' o:Nat)(s:bW),o<=d.length->d.length-o<f->d.length-o<f'->fC d lim f o s=fC d lim f' o s
 | 0,_,_,_,_,h,_=>absurd h (qbq _)
 | _+1,0,_,_,_,_,h=>absurd h (qbq _)
 | f+1,f'+1,o,s,ho,h,h'=>by
  have ha:=(pK d lim o s ho).2;unfold fC
  cases he:gH d lim o s with
  | stop c off=>rfl
  | ext s' n =>
   rw[he] at ha;have:=ha n rfl;exact tO d lim f f' n s' this.2.1 (by omega) (by omega)
  | ent e s' n =>
   rw[he] at ha;have:=ha n rfl;simp only
   rw[tO d lim f f' n s' this.2.1 (by omega) (by omega)]
def sgo(d:List UInt8)(lim:kG)(o:Nat)(s:bW):Pz:=fC d lim (d.length+1) o s
theorem adV(d:List UInt8)(lim:kG)(o:Nat)(s:bW)(ho:o<=d.length):sgo d lim o s=match gH d lim o s with
  | .stop c off=>⟨[],c,off,s.held⟩
  | .ext s' n=>sgo d lim n s'
  | .ent e s' n=>{sgo d lim n s' with ents:=e::(sgo d lim n s').ents}:=by
 have ha:=(pK d lim o s ho).2;unfold sgo;rw[fC]
 cases he:gH d lim o s with
 | stop c off=>rfl
 | ext s' n =>
  rw[he] at ha;have:=ha n rfl;exact tO d lim _ _ n s' this.2.1 (by omega) (by omega)
 | ent e s' n =>
  rw[he] at ha;have:=ha n rfl;simp only
  rw[tO d lim d.length (d.length+1) n s' this.2.1 (by omega) (by omega)]
theorem Jp{d:List UInt8}{lim:kG}{C:Nat->bW->Pz->Prop}(h1:∀ o s c off,o<=d.length->gH d lim o s=.stop c off->C o s ⟨[],c,off,s.held⟩)(h2:∀ o s s' n,o<=d.length->n<=d.length->o+512<=n->gH d lim o s=.ext s' n->C n s' (sgo d lim n s')->C o s (sgo d lim n s'))(h3:∀ o s e s' n,o<=d.length->n<=d.length->o+512<=n->gH d lim o s=.ent e s' n->C n s' (sgo d lim n s')->C o s {sgo d lim n s' with ents:=e::(sgo d lim n s').ents}):∀ o s,o<=d.length->C o s (sgo d lim o s):=by
 intro o s ho;generalize hk:d.length-o=k
 induction k using Nat.strongRecOn generalizing o s with
 | ind k ih =>
  have ha:=(pK d lim o s ho).2;rw[adV d lim o s ho]
  cases he:gH d lim o s with
  | stop c off=>exact h1 o s c off ho he
  | ext s' n =>
   rw[he] at ha;have:=ha n rfl;exact h2 o s s' n ho this.2.1 this.1 he (ih (d.length-n) (by omega) n s' this.2.1 rfl)
  | ent e s' n =>
   rw[he] at ha;have:=ha n rfl;exact h3 o s e s' n ho this.2.1 this.1 he (ih (d.length-n) (by omega) n s' this.2.1 rfl)
theorem ajm{d:List UInt8}{lim:kG}{o:Nat}{h:Hd}{s s':bW}(he:extend d lim o h s=.ok s'):s.held<=s'.held/\qN s'<=s'.held:=by
 have hw:∀ t:bW,t.held=s.held->s.held<=(GA t).held/\qN (GA t)<=(GA t).held:=fun t ht=>by
  unfold GA qN;simp only;omega
 unfold extend at he;split at he
 .unfold Rt at he;split at he
  .cases he
  .split at he
   .cases he
   .cases he;exact hw _ rfl
 .split at he
  .unfold Ui at he;split at he
   .cases he
   .split at he
    .cases he
    .split at he
     .cases he
     .cases he;exact hw _ rfl
  .unfold Tg at he;split at he
   .cases he
   .split at he
    .cases he
    .split at he
     .cases he
     .simp only at he;split at he
      .cases he
      .cases he
       refine hw _ ?_;unfold dD;split <;> rfl
theorem Rx{d:List UInt8}{lim:kG}{o n:Nat}{s s':bW}(he:gH d lim o s=.ext s' n):∃ h,hread (eH d o (o+512))=(h,0)/\lH h.ty=true/\extend d lim (o+512) h s=.ok s'/\n=next o h.size:=by
 unfold gH at he;simp only at he;split at he
 .cases he
 .split at he
  .cases he
  .split at he
   .cases he
   .split at he
    .cases he
    .rename_i h0
     split at he
     .rename_i hx
      split at he
      .cases he
      .rename_i s'' hs
       cases he
       exact⟨_,Prod.ext rfl (qcb.1 h0),hx,hs,rfl⟩
     .split at he
      .split at he <;> cases he
      .cases he
theorem TW{d:List UInt8}{lim:kG}{o n:Nat}{e:En}{s s':bW}(he:gH d lim o s=.ent e s' n):∃ h size,hread (eH d o (o+512))=(h,0)/\(48<=h.ty/\h.ty<=54)/\entry d (o+512) h s=.ok (e,size)/\s'=clean s/\n=next o size:=by
 unfold gH at he;simp only at he;split at he
 .cases he
 .split at he
  .cases he
  .split at he
   .cases he
   .split at he
    .cases he
    .rename_i h0
     split at he
     .split at he <;> cases he
     .split at he
      .rename_i hy
       split at he
       .cases he
       .rename_i e' sz hs
        cases he
        exact⟨_,_,Prod.ext rfl (qcb.1 h0),hy,hs,rfl,rfl⟩
      .cases he
theorem ajB(d:List UInt8)(lim:kG):∀ o s,o<=d.length->s.held<=(sgo d lim o s).held :=Jp (C:=fun o s r=>s.held<=r.held) (fun o s c off _ _=>U4 _)
  (fun o s s' n _ _ _ he ih=>by
   obtain⟨h,_,_,h2,_⟩:=Rx he;have:=(ajm h2).1;omega)
  fun o s e s' n _ _ _ he ih=>by
   obtain⟨h,sz,_,_,_,rfl,_⟩:=TW he;exact ih
theorem ZT(d:List UInt8)(lim:kG):∀ o s,o<=d.length->o<=(sgo d lim o s).off/\(sgo d lim o s).off<=d.length/\(sgo d lim o s).code≠78/\((sgo d lim o s).code=0->∃ x,(sgo d lim o s).off=x+1024/\eH d x (x+512)=cZ/\eH d (x+512) (x+1024)=cZ) :=Jp (C:=fun o s r=>o<=r.off/\r.off<=d.length/\r.code≠78/\(r.code=0->∃ x,r.off=x+1024/\eH d x (x+512)=cZ/\eH d (x+512) (x+1024)=cZ))
  (fun o s c off ho he=>by
   rcases (pK d lim o s ho).1 c off he with⟨rfl,h2,h3,h4⟩|⟨rfl,rfl,h3,h4,h5⟩
   .exact⟨aY _,ho,h3,fun h=>absurd h h2⟩
   .exact⟨by show o<=o+1024;omega,h3,by show(0:Int)≠78;decide,fun _=>⟨o,rfl,h4,h5⟩⟩)
  (fun o s s' n ho hn hlt he ih=>⟨by omega,ih.2⟩)
  fun o s e s' n ho hn hlt he ih=>⟨by have:=ih.1;simp only;omega,ih.2⟩
theorem ajr(c more:List UInt8)(lim:kG):∀ o s,o<=c.length->((sgo c lim o s).ents <+: (sgo (c++more) lim o s).ents)/\(sgo c lim o s).held<=(sgo (c++more) lim o s).held /\ ((sgo (c++more) lim o s).code=0->(sgo (c++more) lim o s).off<=c.length->sgo (c++more) lim o s=sgo c lim o s)/\((sgo c lim o s).code=0->sgo (c++more) lim o s=sgo c lim o s):=by
 have hlen:(c++more).length=c.length+more.length:=vG;refine Jp (C:=fun o s r=>(r.ents <+: (sgo (c++more) lim o s).ents)/\r.held<=(sgo (c++more) lim o s).held /\
  ((sgo (c++more) lim o s).code=0->(sgo (c++more) lim o s).off<=c.length->sgo (c++more) lim o s=r)/\(r.code=0->sgo (c++more) lim o s=r)) ?_ ?_ ?_
 .intro o s cd off ho he;have hq:=adV (c++more) lim o s (by omega);have aga:=ajB (c++more) lim o s (by omega);rcases aje c more lim o s ho with e|⟨⟨code,hcode,e⟩,ht⟩
  .rw[e,he] at hq;simp only at hq;rw[hq];exact⟨List.prefix_refl _,U4 _,fun _ _=>rfl,fun _=>rfl⟩
  .rw[he] at e;simp only[abe.stop.injEq] at e;refine⟨List.nil_prefix,aga,fun h0 hoff=>?_,fun h=>by have:cd=0:=h;omega⟩;exfalso
   cases hs:gH (c++more) lim o s with
   | stop c2 off2 =>
    rw[hs] at hq ht;simp only at hq;rw[hq] at h0 hoff;have h0:c2=0:=h0;subst h0;have:=ht off2 rfl;have hoff:off2<=c.length:=hoff;omega
   | ext s' n =>
    rw[hs] at hq ht;simp only at hq;have h1:=ht n rfl;have hn:=((pK (c++more) lim o s (by omega)).2 n (by rw[hs];rfl)).2.1;have:=(ZT (c++more) lim n s' hn).1;rw[hq] at hoff;omega
   | ent e' s' n =>
    rw[hs] at hq ht;simp only at hq;have h1:=ht n rfl;have hn:=((pK (c++more) lim o s (by omega)).2 n (by rw[hs];rfl)).2.1;have:=(ZT (c++more) lim n s' hn).1;rw[hq] at hoff;simp only at hoff;omega
 .intro o s s' n ho hn hlt he ih;have hq:=adV (c++more) lim o s (by omega);rcases aje c more lim o s ho with e|⟨⟨code,hcode,e⟩,ht⟩
  .rw[e,he] at hq;simp only at hq;rw[hq];exact ih
  .rw[he] at e;cases e
 .intro o s e' s' n ho hn hlt he ih;have hq:=adV (c++more) lim o s (by omega);rcases aje c more lim o s ho with e|⟨⟨code,hcode,e⟩,ht⟩
  .rw[e,he] at hq;simp only at hq;rw[hq];refine⟨?_,ih.2.1,fun h1 h2=>?_,fun h1=>?_⟩
   .exact List.cons_prefix_cons.2 ⟨rfl,ih.1⟩
   .simp only;rw[ih.2.2.1 h1 h2]
   .simp only;rw[ih.2.2.2 h1]
  .rw[he] at e;cases e
theorem jD:∀ l:List Pr,0<=iZ l
 | []=>by simp[iZ]
 | p::l=>by
  have:=jD l;unfold iZ at this ⊢;simp only[qcf,List.sum_cons];omega
theorem Cy{l:List UInt8}{h:Hd}(hr:hread l=(h,0)):0<=h.size:=by
 unfold hread at hr;split at hr
 .cases hr
 .split at hr
  .cases hr
  .split at hr
   .cases hr
   .rename_i h3
    simp only[MV,and_true] at hr;subst hr;have h4:nK l=true:=by simpa using h3
    unfold nK at h4;simp only[fE] at h4;have h5:=h4.1.1.2;unfold rQ at h5;have h6:=of_decide_eq_true h5;unfold Go.Proofs.YtdbgldieilgnmaaGreatDoor.NQ;simp only
    split
    .exact U4 _
    .exact h6.2.1
def uO(lim:kG)(s:bW):Prop:=iZ s.glob<=lim.iP/\0<=s.zk/\s.zk<=lim.iP/\(s.ln.length:Int)<=lim.name/\(s.lr.length:Int)<=lim.name/\0<=s.held/\s.held<=2*lim.iP+2*lim.name
theorem G8{lim:kG}(h:eT lim=true):uO lim bW.zero:=by
 unfold eT at h;have h:=of_decide_eq_true h;unfold uO bW.zero iZ;simp;omega
theorem nQ{lim:kG}{s:bW}(h0:0<=s.held)(h1:s.held<=2*lim.iP+2*lim.name)(ha:iZ s.glob<=lim.iP)(hb:0<=s.zk)(hc:s.zk<=lim.iP)(hd:(s.ln.length:Int)<=lim.name)(he:(s.lr.length:Int)<=lim.name):uO lim (GA s):=by
 have hp:=jD s.glob;refine⟨ha,hb,hc,hd,he,?_,?_⟩
 .show 0<=max s.held (qN s);unfold qN;omega
 .show max s.held (qN s)<=_;unfold qN;omega
theorem Es{lim:kG}{s:bW}(hl:eT lim=true)(hs:uO lim s):uO lim (clean s):=by
 unfold eT at hl;have hl:=of_decide_eq_true hl;obtain⟨a1,a2,a3,a4,a5,a6,a7⟩:=hs;refine⟨a1,U4 _,?_,?_,?_,a6,a7⟩ <;> simp only[clean,List.length_nil] <;> omega
theorem ah7(d:List UInt8)(lim more:kG)(hp:lim.iP<=more.iP)(o:Nat)(n:Int):recs d more o n=recs d lim o n\/recs d lim o n=.error 74:=by
 unfold recs;by_cases h1:lim.iP<n
 .right;rw[if_pos h1]
 .left;rw[if_neg h1,if_neg (by omega:¬ more.iP<n)]
theorem aia(d:List UInt8)(lim more:kG)(hn:lim.name<=more.name)(hp:lim.iP<=more.iP)(o:Nat)(h:Hd)(s:bW):extend d more o h s=extend d lim o h s\/(∃ c,(c=74\/c=75)/\extend d lim o h s=.error c):=by
 unfold extend;split
 .unfold Rt;split
  .exact .inl rfl
  .rcases ah7 d lim more hp o h.size with e|e
   .left;rw[e]
   .right;rw[e];exact⟨74,.inl rfl,rfl⟩
 .split
  .unfold Ui;split
   .exact .inl rfl
   .rcases ah7 d lim more hp o h.size with e|e
    .rw[e]
     cases recs d lim o h.size with
     | error c=>exact .inl rfl
     | ok ps =>
      simp only
      by_cases h1:lim.iP<iZ (merge s.glob ps)
      .right;rw[if_pos h1];exact⟨74,.inl rfl,rfl⟩
      .left;rw[if_neg h1,if_neg (by omega:¬ more.iP<iZ (merge s.glob ps))]
    .right;rw[e];exact⟨74,.inl rfl,rfl⟩
  .unfold Tg;split
   .exact .inl rfl
   .by_cases h1:lim.name+1<h.size
    .right;rw[if_pos h1];exact⟨75,.inr rfl,rfl⟩
    .rw[if_neg h1,if_neg (by omega:¬ more.name+1<h.size)];split
     .exact .inl rfl
     .simp only
      generalize text (eH d o (o+h.size.toNat))=t;by_cases h2:t=[]\/lim.name<t.length
      .right;rw[if_pos h2];exact⟨75,.inr rfl,rfl⟩
      .left
       rw[if_neg h2,if_neg (fun h3=>h2 (h3.imp id fun h4=>by omega))]
theorem ah4(d:List UInt8)(lim more:kG)(hn:lim.name<=more.name)(hp:lim.iP<=more.iP)(o:Nat)(s:bW):gH d more o s=gH d lim o s\/(∃ c,(c=74\/c=75)/\gH d lim o s=.stop c o):=by
 unfold gH;simp only
 split
 .exact .inl rfl
 .split
  .exact .inl rfl
  .split
   .exact .inl rfl
   .split
    .exact .inl rfl
    .split
     .rcases aia d lim more hn hp (o+512) (hread (eH d o (o+512))).1 s with e|⟨c,hc,e⟩
      .left;rw[e]
      .right;rw[e];exact⟨c,hc,rfl⟩
     .exact .inl rfl
theorem ais(d:List UInt8)(lim more:kG)(hn:lim.name<=more.name)(hp:lim.iP<=more.iP):∀ o s,o<=d.length ->
  sgo d more o s=sgo d lim o s\/(((sgo d lim o s).code=74\/(sgo d lim o s).code=75)/\((sgo d lim o s).ents <+: (sgo d more o s).ents)/\(sgo d lim o s).off<=(sgo d more o s).off):=by
 refine Jp (C:=fun o s r=>sgo d more o s=r\/((r.code=74\/r.code=75)/\(r.ents <+: (sgo d more o s).ents)/\r.off<=(sgo d more o s).off)) ?_ ?_ ?_
 .intro o s c off ho he;rcases ah4 d lim more hn hp o s with e|⟨c',hc,e⟩
  .left;rw[adV d more o s ho,e,he]
  .right
   rw[he] at e
   cases e
   exact⟨hc,List.nil_prefix,(ZT d more o s ho).1⟩
 .intro o s s' n ho hn' hlt he ih;rcases ah4 d lim more hn hp o s with e|⟨c',hc,e⟩
  .rw[adV d more o s ho,e,he];exact ih
  .rw[he] at e;cases e
 .intro o s e' s' n ho hn' hlt he ih;rcases ah4 d lim more hn hp o s with e|⟨c',hc,e⟩
  .rw[adV d more o s ho,e,he];simp only
   rcases ih with ih|⟨h1,h2,h3⟩
   .left;rw[ih]
   .right;exact⟨h1,List.cons_prefix_cons.2 ⟨rfl,h2⟩,h3⟩
  .rw[he] at e;cases e
end Plain
section
open Go.Maps (Keyed)
namespace Gr
def held(v:Value):Option (DataW Value×List MemPlace):=some (.held v,[])
def Reads{κ:Type}(mk:κ->Lit)(D:DataW Value)(f:κ->Option Value):Prop:=∀ x,Maps.has D (mk x)=(f x).isSome/\∀ v,f x=some v->∀ z,D.atKey (mk x) z=.held v
def Mp{κ:Type}(mk:κ->Lit)(P:Program)(k:TypeId)(w:World)(b s:Nat)(f:κ->Option Value):Prop :=∃ D:DataW Value,w.ownsMap P k held b s D/\Maps.size D=s/\Reads mk D f
section
variable {κ:Type}{mk:κ->Lit}{P:Program}{k:TypeId}{w:World}{b s:Nat}{f:κ->Option Value}
theorem Mp.made(mk:κ->Lit)(w:World)(P:Program)(k:TypeId):Mp mk P k (w.alloc (.map #[] 0)) w.heap.size 0 (fun _=>none) :=⟨.map [],World.ownsMap_made _ _ _ _,rfl,fun x=>⟨rfl,fun v hv=>by cases hv⟩⟩
theorem Mp.lt(h:Mp mk P k w b s f):b<w.heap.size:=by obtain⟨D,h,_⟩:=h;exact h.lt
theorem Mp.kept{w':World}{row:Option Nat}(h:Mp mk P k w b s f)(hg:w.grownBy w' row)(hne:some b≠row):Mp mk P k w' b s f:=by
 obtain⟨D,h1,h2,h3⟩:=h;exact⟨D,h1.kept hg hne,h2,h3⟩
theorem Mp.block{w':World}(h:Mp mk P k w b s f)(hb:w'.heap[b]? = w.heap[b]?):Mp mk P k w' b s f:=by
 obtain⟨D,⟨es,clock,h1,h2⟩,h3⟩:=h;exact⟨D,⟨es,clock,hb.trans h1,h2⟩,h3⟩
theorem Mp.below{w':World}{B:Nat}(h:Mp mk P k w b s f)(hb:Below B w w')(hlt:b<B):Mp mk P k w' b s f:=h.block (hb.block b hlt)
theorem Mp.congr{g:κ->Option Value}(h:Mp mk P k w b s f)(e:∀ x,f x=g x):Mp mk P k w b s g:=by
 have:f=g:=funext e
 rwa [<-this]
theorem uL{n:Nat}{D:DataW Value}(h:w.ownsMap P k held b n D):w.ownsMap P k held b (Maps.size D) D:=by
 obtain⟨es,clock,hb,F,_,rfl⟩:=h;exact⟨es,clock,hb,F,by simp[Maps.size,length_sorted],rfl⟩
theorem Mp.value{D:DataW Value}(hr:Reads mk D f)(x:κ){v z:Value}{ps:List MemPlace}(h:held v=some (D.atKey (mk x) (.held z),ps)):v=(f x).getD z:=by
 simp only[held,Ba,MV] at h;obtain⟨h1,h2⟩:=hr x
 cases hf:f x with
 | none =>
  rw[hf] at h1;have:=Maps.atKey_of_not_has (H:=Value) h1 (.held z);rw[this] at h;exact DataW.held.inj h.1
 | some u =>
  rw[h2 u hf] at h;exact DataW.held.inj h.1
variable {ops:Array Oper}{rest:List Oper}{o:Oper}{a:Act}{Q:Exit->Act->World->Prop}
theorem xD(hg:o.guard=none)(m y:Operand)(t:TypeId)(hop:o.op=Op.lookup t m y true)(e:TypeId)(K:Keyed P k)(ht:P.underlying t=some (.map k e)){z:Value}(hz:(zeroValue e).run P w=.ok z w)(hm:a.eval m=.map (some b))(h:Mp mk P k w b s f)(key:Value)(x:κ)(hx:a.eval y=key)(hkey:keyOf P k key=some (mk x))(hK:wpList P ops Q rest (a.put o.dst (.tuple #[(f x).getD z,.bool (f x).isSome])) w):wpList P ops Q (o::rest) a w:=by
 obtain⟨D,h1,h2,h3⟩:=h;obtain⟨v,ps,hrun,hv⟩:=h1.look_ok K ht hz (zd:=.held z) (zp:=[]) rfl hkey;obtain rfl:=Mp.value h3 x hv;rw[(h3 x).1] at hrun;refine wpList_plain hg fun K' hK'=>?_
 unfold Oper.wp;simp[execOp,hop,hm,hx,hrun,Result.andThen];exact hK' _ _ hK
theorem Mp.Kj(h:Mp mk P k w b s f){t e:TypeId}(K:Keyed P k)(ht:P.underlying t=some (.map k e)){z:Value}(hz:(zeroValue e).run P w=.ok z w){key:Value}(x:κ)(hkey:keyOf P k key=some (mk x)):(Instr.lookup t (.map (some b)) key false).run P w=.ok ((f x).getD z) w:=by
 obtain⟨D,h1,h2,h3⟩:=h;obtain⟨v,ps,hrun,hv⟩:=h1.lookup K ht hz (zd:=.held z) (zp:=[]) rfl hkey;obtain rfl:=Mp.value h3 x hv;exact hrun
theorem Mp.aaG(h:Mp mk P k w b s f){t e:TypeId}(ht:P.underlying t=some (.map k e))(ty:TypeId):(Builtin.len_ #[t] ty #[.map (some b)]).run P w=.ok (.int .i64 s) w:=by
 obtain⟨D,h1,h2,h3⟩:=h;rw[h1.len ht ty,h2]
theorem mE(hg:o.guard=none)(m y:Operand)(t:TypeId)(hop:o.op=Op.lookup t m y true)(e:TypeId)(K:Keyed P k)(ht:P.underlying t=some (.map k e)){z:Value}(hz:(zeroValue e).run P w=.ok z w)(hm:a.eval m=.map (some b))(h:Mp mk P k w b s f)(key:Value)(x:κ)(hx:a.eval y=key)(hkey:keyOf P k key=some (mk x))(v:Value)(ok:Bool)(hv:(f x).getD z=v)(hok:(f x).isSome=ok)(hK:wpList P ops Q rest (a.put o.dst (.tuple #[v,.bool ok])) w):wpList P ops Q (o::rest) a w :=xD hg m y t hop e K ht hz hm h key x hx hkey (by rw[hv,hok];exact hK)
theorem Mp.noCell(h:Mp mk P k w b s f){p:Addr}{v:Value}(hc:w.cell? p=some v):p.block≠b:=by
 obtain⟨D,⟨es,clock,h1,_⟩,_⟩:=h;intro e;rw[<-e] at h1;simp[World.cell?,h1] at hc
theorem Mp.keeps{w':World}(h:Mp mk P k w b s f)(hg:w.grownBy w' (some b)):Keeps w w':=fun p v hv=>hg.cell hv (fun e=>h.noCell hv (pQ e))
theorem below_grown{w':World}(h:Below w.heap.size w w')(row:Option Nat):w.grownBy w' row:=⟨h.os,h.tape,h.output,h.size,fun i hi _=>h.block i hi⟩
theorem nX{w':World}{B c:Nat}(h:w.grownBy w' (some c))(hc:B<=c)(hB:B<=w.heap.size):Below B w w':=⟨h.os,h.tape,h.output,h.size,fun i hi=>h.block i (by omega) (fun e=>by have:=pQ e;omega)⟩
variable [DecidableEq κ]
def upd(f:κ->Option Value)(x:κ)(v:Value):κ->Option Value:=fun y=>if y=x then some v else f y
theorem uT(hg:o.guard=none)(m y u:Operand)(t:TypeId)(hop:o.op=Op.mapUpdate t m y u)(e:TypeId)(K:Keyed P k)(ht:P.underlying t=some (.map k e))(hm:a.eval m=.map (some b))(h:Mp mk P k w b s f)(hs:s<maxLen)(key:Value)(x:κ)(hx:a.eval y=key)(hkey:keyOf P k key=some (mk x))(v:Value)(hv:a.eval u=v)(inj:∀ x y,mk x=mk y->x=y)(hK:∀ w',Mp mk P k w' b (if (f x).isSome then s else s+1) (upd f x v)->w.grownBy w' (some b)->wpList P ops Q rest (a.put o.dst undef) w'):wpList P ops Q (o::rest) a w:=by
 obtain⟨D,h1,h2,h3⟩:=h;refine wpList_plain hg fun K' hK'=>?_
 obtain⟨w',hrun,r1,r2⟩:=h1.update K ht hs hkey (d:=.held v) (ps:=[]) rfl;unfold Oper.wp;simp[execOp,hop,hm,hx,hv,hrun,Result.andThen];refine hK' _ _ (hK w' ?_ r2);have hsz:=Maps.size_put (h1.tidy K) (.held v) (k:=mk x);rw[h2,(h3 x).1] at hsz;refine⟨D.put (mk x) (.held v),?_,hsz,fun z=>?_⟩
 .have:=uL r1
  rwa [hsz] at this
 .by_cases hz:z=x
  .subst hz;exact⟨by rw[Maps.has_put_same h1.isMap (K.key hkey)];simp[upd],fun u hu z=>by simp[upd] at hu;subst hu;exact Maps.atKey_put_same h1.isMap (K.key hkey) _ _⟩
  .have hne:mk z≠mk x:=fun e=>hz (inj _ _ e)
   refine⟨by rw[Maps.has_put_other hne,(h3 z).1];simp[upd,hz],fun u hu y=>?_⟩;rw[Maps.atKey_put_other hne];simp only[upd,if_neg hz] at hu;exact(h3 z).2 u hu y
end
def mkS(x:List UInt8):Lit:=.string x
theorem Bj(x y:List UInt8)(h:mkS x=mkS y):x=y:=by simpa[mkS] using h
theorem Jm{P:Program}{k:TypeId}(hk:P.underlying k=some .string){x:List UInt8}(h:x.length<=9223372036854775807):keyOf P k (.string ⟨x.toArray⟩)=some (mkS x):=by
 rw[Go.WideMaps.keyOf_string_mk hk (by simpa[ByteArray.size,maxLen] using h)];simp[mkS]
end Gr
end
section
open Go.Maps (Keyed)
namespace Gr
section
variable {κ:Type}{mk:κ->Lit}{P:Program}{k:TypeId}{w:World}{b s:Nat}{f:κ->Option Value}
variable {ops:Array Oper}{rest:List Oper}{o:Oper}{a:Act}{Q:Exit->Act->World->Prop}
variable [DecidableEq κ]
def del(f:κ->Option Value)(x:κ):κ->Option Value:=fun y=>if y=x then none else f y
theorem Mp.adn{w':World}{D:DataW Value}{x:κ}(inj:∀ x y,mk x=mk y->x=y)(h1:w.ownsMap P k held b s D)(h3:Reads mk D f)(K:Keyed P k){key:Value}(hkey:keyOf P k key=some (mk x))(r1:w'.ownsMap P k held b s (D.del (mk x))):∃ s',s'<=s/\Mp mk P k w' b s' (del f x):=by
 refine⟨_,?_,D.del (mk x),uL r1,rfl,fun z=>?_⟩
 .exact r1.size_le
 .by_cases hz:z=x
  .subst hz;exact⟨by rw[Maps.has_del_same];simp[del],fun u hu=>by simp[del] at hu⟩
  .have hne:mk z≠mk x:=fun e=>hz (inj _ _ e)
   refine⟨by rw[Maps.has_del_other hne,(h3 z).1];simp[del,hz],fun u hu y=>?_⟩;rw[Maps.atKey_del_other hne];simp only[del,if_neg hz] at hu;exact(h3 z).2 u hu y
theorem oL(hg:o.guard=none)(m y:Operand)(t:TypeId)(hop:o.op=Op.call {callee:=Callee.builtin Builtin.delete,args:=#[m,y],argTypes:=#[t,k]})(e:TypeId)(K:Keyed P k)(ht:P.underlying t=some (.map k e))(hm:a.eval m=.map (some b))(h:Mp mk P k w b s f)(key:Value)(x:κ)(hx:a.eval y=key)(hkey:keyOf P k key=some (mk x))(inj:∀ x y,mk x=mk y->x=y)(hK:∀ w' s',s'<=s->Mp mk P k w' b s' (del f x)->w.grownBy w' (some b)->wpList P ops Q rest (a.put o.dst (.tuple #[])) w'):wpList P ops Q (o::rest) a w:=by
 obtain⟨D,h1,h2,h3⟩:=h;refine wpList_delete_own w hg m y t k hop e K ht held b s D hm h1 key (mk x) hx hkey fun w' r1 r2=>?_
 obtain⟨s',hs',hm'⟩:=Mp.adn inj h1 h3 K hkey r1;exact hK w' s' hs' hm' r2.grown
end
end Gr
end
namespace Gr
abbrev Bt:=List UInt8
def below(path:Bt)(top:Bool)(nm:Bt):Bt:=if top then nm else path++47::nm
end Gr
section
open Go.Maps (Keyed)
namespace Gr
theorem lawS:Keyed qp0 9:=Maps.string_keyed underlying9
end Gr
end
section
open Go.Maps (Keyed)
namespace Ov
def clV(v:List UInt8):Value:=.agg #[.string ⟨v.toArray⟩,.bool false]
def G6(m:Plain.Lv):List UInt8->Option Value:=fun k=>(m k).map clV
def Lvl(w:World)(b s:Nat)(m:Plain.Lv):Prop:=Gr.Mp Gr.mkS qp0 9 w b s (G6 m)
structure Tab(w:World)(tb rb cap:Nat)(B:Nat->Nat)(m:Nat->Plain.Lv)(N:Nat):Prop where
 hd:w.cell? ⟨tb,0,none⟩=some (.slice (some ⟨rb,0,none⟩) 4 cap)
 row:∀ i,i<4->w.cell? ⟨rb,i,none⟩=some (.map (some (B i)))
 lv:∀ i,i<4->∃ s,s<=N/\Lvl w (B i) s (m i)
 inj:∀ i j,i<4->j<4->B i=B j->i=j
 c4:4<=cap
 cm:cap<=9223372036854775807
structure Tn(b0:Nat)(w w':World):Prop where
 keeps:Keeps w w'
 bJ:Below b0 w w'
theorem Tn.refl(b0:Nat)(w:World):Tn b0 w w:=⟨Keeps.refl w,Below.refl _ _⟩
theorem Tn.trans{b0:Nat}{a b c:World}(h:Tn b0 a b)(k:Tn b0 b c):Tn b0 a c:=⟨h.keeps.trans k.keeps,h.bJ.trans k.bJ⟩
theorem Tn.of{b0:Nat}{w w':World}(h:Below w.heap.size w w')(hb:b0<=w.heap.size):Tn b0 w w':=⟨Below.keeps h,h.mono hb⟩
theorem Tab.below{w w':World}{tb rb cap N:Nat}{B:Nat->Nat}{m:Nat->Plain.Lv}(h:Tab w tb rb cap B m N)(hb:Below w.heap.size w w'):Tab w' tb rb cap B m N :=⟨Below.keeps hb _ _ h.hd,fun i hi=>Below.keeps hb _ _ (h.row i hi),fun i hi=>by obtain⟨s,h1,h2⟩:=h.lv i hi;exact⟨s,h1,Gr.Mp.below h2 hb h2.lt⟩,h.inj,h.c4,h.cm⟩
theorem Tab.mono{w:World}{tb rb cap N M:Nat}{B:Nat->Nat}{m:Nat->Plain.Lv}(h:Tab w tb rb cap B m N)(hN:N<=M):Tab w tb rb cap B m M :=⟨h.hd,h.row,fun i hi=>by obtain⟨s,h1,h2⟩:=h.lv i hi;exact⟨s,by omega,h2⟩,h.inj,h.c4,h.cm⟩
theorem Tab.congr{w:World}{tb rb cap N:Nat}{B:Nat->Nat}{m m':Nat->Plain.Lv}(h:Tab w tb rb cap B m N)(e:∀ i,i<4->m' i=m i):Tab w tb rb cap B m' N :=⟨h.hd,h.row,fun i hi=>by rw[e i hi];exact h.lv i hi,h.inj,h.c4,h.cm⟩
theorem Tab.lt{w:World}{tb rb cap N:Nat}{B:Nat->Nat}{m:Nat->Plain.Lv}(h:Tab w tb rb cap B m N)(i:Nat)(hi:i<4):B i<w.heap.size:=by obtain⟨s,_,h2⟩:=h.lv i hi;exact h2.lt
theorem Tab.turn{w w':World}{tb rb cap N:Nat}{B:Nat->Nat}{m:Nat->Plain.Lv}(h:Tab w tb rb cap B m N){i s:Nat}(hi:i<4){m1:Plain.Lv}{M:Nat}(hM:N<=M)(hs:s<=M)(h1:Lvl w' (B i) s m1)(hg:w.grownBy w' (some (B i))):Tab w' tb rb cap B (fun j=>if j=i then m1 else m j) M/\∀ b0,(∀ j,j<4->b0<=B j)->Tn b0 w w':=by
 obtain⟨s0,hs0,hm0⟩:=h.lv i hi;have hk:Keeps w w':=hm0.keeps hg;refine⟨⟨hk _ _ h.hd,fun j hj=>hk _ _ (h.row j hj),fun j hj=>?_,h.inj,h.c4,h.cm⟩,fun b0 hb=>⟨hk,Gr.nX hg (hb i hi) (tT (hb i hi) (qb8 hm0.lt))⟩⟩;by_cases e:j=i
 .subst e;exact⟨s,hs,by rw[if_pos rfl];exact h1⟩
 .obtain⟨sj,hsj,Zo⟩:=h.lv j hj;refine⟨sj,by omega,?_⟩;rw[if_neg e];exact Zo.kept hg (fun e2=>e (h.inj j i hj hi (pQ e2)))
theorem aal(m:Plain.Lv)(k v:List UInt8)(hv:v≠[]):∀ x,Gr.upd (G6 m) k (clV v) x=G6 (Plain.yc m (k,v)) x:=fun x=>by
 unfold Gr.upd G6 Plain.yc;by_cases h:x=k
 .simp only[if_pos h,if_neg hv,MK]
 .simp only[if_neg h]
theorem aaV(m:Plain.Lv)(k:List UInt8):∀ x,Gr.del (G6 m) k x=G6 (Plain.yc m (k,[])) x:=fun x=>by
 unfold Gr.del G6 Plain.yc;by_cases h:x=k
 .simp only[if_pos h,if_true,Option.map_none]
 .simp only[if_neg h]
theorem Wh(m:Plain.Lv)(k:List UInt8):∀ x,Gr.del (G6 m) k x=G6 (Plain.vw m (k,[])) x:=fun x=>by
 unfold Gr.del G6 Plain.vw;by_cases h:x=k
 .simp[h]
 .simp[h]
theorem Ux(m:Plain.Lv)(p:Pr)(hv:p.2≠[]):Plain.vw m p=m:=by
 funext y;unfold Plain.vw;rw[if_neg (fun h=>hv h.1)]
theorem ZA(tb rb cap N i:Nat)(B:Nat->Nat)(m:Nat->Plain.Lv)(k v:List UInt8)(w:World)(h:Tab w tb rb cap B m N)(hi:i<4)(hN:N<1000000000000)(hv:v≠[])(hk:k.length<=9223372036854775807):Calls qp0 245 #[.pointer (some ⟨tb,0,none⟩),.int .i64 i,.string ⟨k.toArray⟩,clV v] w fun e w'=>e=.returned (.int .i64 0) /\
   Tab w' tb rb cap B (fun j=>if j=i then Plain.yc (m i) (k,v) else m j) (N+1)/\∀ b0,(∀ j,j<4->b0<=B j)->Tn b0 w w':=by
 have hc4:=h.c4;have hcm:=h.cm;have HH:=ah (fun (w':World)(hb:Below w.heap.size w w')=>h.below hb);have HKEY:=ah (Gr.Jm (P:=qp0) underlying9 hk);have HI:=ah hi;have HLT:=ah (h.lt i hi);clear h;unfold clV;go_enter func245,ntmps245;go_upto_region 1 with fail
 have hb1:Below w.heap.size w (w.alloc (.cells #[.string ⟨v.toArray⟩,.bool false] 283)):=(Below.refl _ _).alloc (aY _) _;have hT:=HH.out _ hb1;have hc0:(w.alloc (.cells #[.string ⟨v.toArray⟩,.bool false] 283)).heap[w.heap.size]? = some (.cells #[.string ⟨v.toArray⟩,.bool false] 283 (0,0)):=JL;generalize w.alloc (.cells #[.string ⟨v.toArray⟩,.bool false] 283)=w1 at *
 have hr0:w1.cell? ⟨w.heap.size,0,none⟩=some (.string ⟨v.toArray⟩):=by simp[World.cell?,hc0]
 have hr1:w1.cell? ⟨w.heap.size,1,none⟩=some (.bool false):=by simp[World.cell?,hc0]
 have h1:=hT.hd;have h2:=hT.row i hi;have hi1:¬ ((i:Int)<0):=by omega
 have hi2:(i:Int)<4:=by omega
 have hi3:¬ ((4:Int)<=(i:Int)):=by omega
 obtain⟨s,hs,hm⟩:=hT.lv i hi;have HT:=ah hT;have HM:=ah hm;have HSS:=ah hs;have HB1:=ah hb1;have HC0:=ah hc0;clear hT hm hs hb1 hc0;go_upto_region 3 with fail
 go_still_tail 9,(by kernel_rfl)
 change wpList _ _ _ _ _ w1.drew
 go_wp2_with (at_mapUpdate;refine Gr.uT rfl _ _ _ 280 rfl 283 Gr.lawS underlying280 rfl (HM.out.block (w':=w1.drew) rfl) (by have:=HSS.out;unfold maxLen;omega) _ k rfl HKEY.out (clV v) rfl Gr.Bj ?_;intro w5 hm5 hg5)
 go_ret;have ET:w1.grownBy w5 (some (B i)):=⟨hg5.os,hg5.tape,hg5.output,hg5.size,hg5.block⟩;have hl:Lvl w5 (B i) (if (G6 (m i) k).isSome then s else s+1) (Plain.yc (m i) (k,v)):=hm5.congr fun x=>aal (m i) k v hv x
 obtain⟨h7,h8⟩:=HT.out.turn HI.out (M:=N+1) (by omega) (by have:=HSS.out;split <;> omega) hl ET;refine⟨rfl,h7,fun b0 hb0=>(Tn.of HB1.out ?_).trans (h8 b0 hb0)⟩;have h9:=HLT.out;have h10:=hb0 i HI.out;omega
theorem aa2(tb rb cap N i:Nat)(B:Nat->Nat)(m:Nat->Plain.Lv)(k v:List UInt8)(w:World)(h:Tab w tb rb cap B m N)(hi:i<4)(hN:N<1000000000000)(hv:v≠[])(hk:k.length<=9223372036854775807):Calls qp0 218 #[.pointer (some ⟨tb,0,none⟩),.int .i64 i,.string ⟨k.toArray⟩,.string ⟨v.toArray⟩] w fun e w'=>e=.returned (.int .i64 0) /\
   Tab w' tb rb cap B (fun j=>if j=i then Plain.yc (m i) (k,v) else m j) (N+1)/\∀ b0,(∀ j,j<4->b0<=B j)->Tn b0 w w':=by
 have HP:=ah (ZA tb rb cap N i B m k v w h hi hN hv hk);go_enter func218,ntmps218;go_wp2_with (go_at_call 245;refine(HP.out).mono ?_;rintro e w1 ⟨rfl,h2⟩;have HQ:=ah h2;clear h2)
 go_ret;exact⟨rfl,HQ.out⟩
def EN(m:Nat->Plain.Lv)(L:Nat)(l:List Pr):Nat->Plain.Lv:=fun j=>if j=L then Plain.lays (m L) l else if L=3/\j=1 then Plain.hides (m 1) l else m j
theorem ZI(m:Nat->Plain.Lv)(L:Nat):∀ j,j<4->m j=EN m L [] j:=fun j _=>by
 unfold EN;split
 .rename_i h;rw[h];rfl
 .split
  .rename_i h;rw[h.2];rfl
  .rfl
theorem Wj(m:Nat->Plain.Lv)(L:Nat)(l:List Pr)(k:Nat)(hk:k<l.length)(hv:(l.getD k ([],[])).2≠[]):∀ j,j<4->EN m L (l.take (k+1)) j=(if j=L then Plain.yc (EN m L (l.take k) L) (l.getD k ([],[])) else EN m L (l.take k) j):=fun j _=>by
 unfold EN;rw[Plain.yH _ _ _ hk,Plain.Dp _ _ _ hk,Ux _ _ hv];split
 .simp
 .rfl
theorem abw(m:Nat->Plain.Lv)(L:Nat)(hL:L≠3)(l:List Pr)(k:Nat)(hk:k<l.length):∀ j,j<4->EN m L (l.take (k+1)) j=(if j=L then Plain.yc (EN m L (l.take k) L) (l.getD k ([],[])) else EN m L (l.take k) j):=fun j _=>by
 unfold EN;rw[Plain.yH _ _ _ hk];split
 .simp
 .simp[hL]
theorem aaL(m:Nat->Plain.Lv)(l:List Pr)(k:Nat)(hk:k<l.length):∀ j,j<4->EN m 3 (l.take (k+1)) j=(if j=1 then Plain.vw (EN m 3 (l.take k) 1) (l.getD k ([],[])) else if j=3 then Plain.yc (EN m 3 (l.take k) 3) (l.getD k ([],[])) else EN m 3 (l.take k) j):=fun j _=>by
 unfold EN;rw[Plain.yH _ _ _ hk,Plain.Dp _ _ _ hk];by_cases h3:j=3
 .subst h3;simp
 .by_cases h1:j=1
  .subst h1;simp
  .simp[h1,h3]
theorem Br(tb rb cap N L:Nat)(B:Nat->Nat)(m:Nat->Plain.Lv)(a:Option Addr)(n c:Nat)(l:List Pr)(w:World)(h:Tab w tb rb cap B m N)(hL:L<4)(hp:uD w a n c l)(hn:n<=4194304)(hN:N<=16777216)(hk:∀ p∈l,p.1.length<=9223372036854775807):Calls qp0 190 #[.pointer (some ⟨tb,0,none⟩),.int .i64 L,.slice a n c] w fun e w'=>e=.returned (.tuple #[])/\Tab w' tb rb cap B (EN m L l) (N+n)/\∀ b0,(∀ j,j<4->b0<=B j)->Tn b0 w w':=by
 have hll:=hp.len;have hc:=hp.cap;have hm:=hp.max;have HL:=ah hll;clear hll;have HK:=ah hk;clear hk;have HP:=ah hp;clear hp;have HT0:=ah (h.congr fun j hj=>(ZI m L j hj).symm);clear h;go_enter func190,ntmps190;go_wp2
 go_loopw [10] (fun i wr=>∃ k:Nat,k<=n/\i=.int .i64 k/\Hid (Tab wr tb rb cap B (EN m L (l.take k)) (N+k))/\Hid (∀ b0,(∀ j,j<4->b0<=B j)->Tn b0 w wr)) (fun i _=>n-(intOf i).toNat)
 case atStart=>exact⟨0,M8 _,rfl,HT0,ah fun b0 _=>Tn.refl b0 w⟩
 case round =>
  obtain⟨k,hkn,rfl,HT,HN⟩:=hrel;by_cases hlt:k<n
  .have hkl:k<l.length:=by rw[HL.out];exact hlt
   obtain⟨pb,off,rfl,h0,h1⟩:=((HN.out 0 (fun _ _=>M8 _)).keeps.Sq HP.out).at k hlt;have hki:(k:Int)<n:=by omega
   have hmem:l.getD k ([],[])∈l:=by rw[List.getD,kM hkl];exact VE hkl
   have hkey:=Gr.Jm (P:=qp0) underlying9 (HK.out _ hmem);have hfull:=Wj m L l k hkl;have hone:=fun hL3=>abw m L hL3 l k hkl
   have acd:=aaL m l k hkl;generalize hg:l.getD k ([],[])=g at h0 h1 hkey hfull hone acd;have QE:=HK.out _ hmem;rw[hg] at QE;obtain⟨gk,gv⟩:=g;simp only at h0 h1 hkey hfull QE;have HKL:=ah QE;have HKEY:=ah hkey;have AP:=ah hone;have agh:=ah acd;have afQ:=ah hfull;have Ro:=ah hL;clear hkey hone acd hfull hmem hg hkl QE;go_upto_region 3 with fail
   have hb1:Below wr.heap.size wr (wr.alloc (.cells #[.string ⟨gk.toArray⟩,.string ⟨gv.toArray⟩] 160)):=(Below.refl _ _).alloc (aY _) _;have hc0:(wr.alloc (.cells #[.string ⟨gk.toArray⟩,.string ⟨gv.toArray⟩] 160)).heap[wr.heap.size]? = some (.cells #[.string ⟨gk.toArray⟩,.string ⟨gv.toArray⟩] 160 (0,0)):=JL;generalize wr.alloc (.cells #[.string ⟨gk.toArray⟩,.string ⟨gv.toArray⟩] 160)=w1 at *
   have d0:w1.cell? ⟨wr.heap.size,0,none⟩=some (.string ⟨gk.toArray⟩):=by simp[World.cell?,hc0]
   have d1:w1.cell? ⟨wr.heap.size,1,none⟩=some (.string ⟨gv.toArray⟩):=by simp[World.cell?,hc0]
   have HT1:=ah (HT.out.below hb1);have HB1:=ah hb1;have HN1:=ah (fun b0 (hb0:∀ j,j<4->b0<=B j)=>(HN.out b0 hb0).trans (Tn.of HB1.out (by have:=HT.out.lt 0 (by omega);have:=hb0 0 (by omega);omega)));clear hb1 hc0 HT HN h0 h1;by_cases hgv:gv=[]
   .subst hgv;have h1:=HT1.out.hd;have h2:=HT1.out.row L hL;have hi2:(L:Int)<4:=by omega
    obtain⟨s,hs,hm2⟩:=HT1.out.lv L hL;have HM:=ah hm2;have HSS:=ah hs;have hgb:(([]:List UInt8).isEmpty)=true:=rfl;have hc4:=HT1.out.c4;have hcm:=HT1.out.cm;have Yo:=ah (fun (w2:World) (s':Nat) (hs':s'<=s) (hm3:Gr.Mp Gr.mkS qp0 9 w2 (B L) s' (Gr.del (G6 (EN m L (l.take k) L)) gk)) (hg:w1.grownBy w2 (some (B L)))=>HT1.out.turn (i:=L) (s:=s') Ro.out (M:=N+k) (by omega) (by omega) (hm3.congr fun x=>aaV _ gk x) hg);clear hm2 hs;by_cases hL3:L=3
    .have agw:((L:Int)==3)=true:=by rw[beq_iff_eq];omega
     have HL3:=ah hL3;clear hL3;go_upto_region 5 with fail
     go_still_tail 9,(by kernel_rfl)
     change wpList _ _ _ _ _ w1.drew
     go_upto_region 7 with(at_delete;refine Gr.oL rfl _ _ 280 rfl 283 Gr.lawS underlying280 rfl (HM.out.block (w':=w1.drew) rfl) _ gk rfl HKEY.out Gr.Bj ?_;intro w2 s2 hs2 hm2 hg2;have HM2:=ah hm2;have HS2:=ah hs2;have HG2:Hid (w1.grownBy w2 (some (B L))):=ah ⟨hg2.os,hg2.tape,hg2.output,hg2.size,hg2.block⟩;clear hs2 hm2 hg2)
     obtain⟨h7,h8⟩:=Yo.out w2 s2 HS2.out HM2.out HG2.out;have HT7:=ah h7;have HN8:=ah h8;have h1':=h7.hd;have h2':=h7.row 1 (by omega);have d0':w2.cell? ⟨wr.heap.size,0,none⟩=some (.string ⟨gk.toArray⟩):=(h8 0 (fun _ _=>M8 _)).keeps _ _ d0;obtain⟨t,ht,hm4⟩:=h7.lv 1 (by omega);have HM4:=ah hm4;have HTS:=ah ht;clear h7 h8 hm4 ht h1 h2 d0 d1 Yo HM;go_still_tail 8,(by kernel_rfl)
     change wpList _ _ _ _ _ w2.drew
     go_wp2_with (at_delete;refine Gr.oL rfl _ _ 280 rfl 283 Gr.lawS underlying280 rfl (HM4.out.block (w':=w2.drew) rfl) _ gk rfl HKEY.out Gr.Bj ?_;intro w3 s3 hs3 hm3 hg3;have HM3:=ah hm3;have KY:=ah hs3;have HG3:Hid (w2.grownBy w3 (some (B 1))):=ah ⟨hg3.os,hg3.tape,hg3.output,hg3.size,hg3.block⟩;clear hs3 hm3 hg3)
     obtain⟨h9,h10⟩:=HT7.out.turn (i:=1) (s:=s3) (by omega) (M:=N+k) (aY _) (by have:=KY.out;have:=HTS.out;omega) (HM3.out.congr fun x=>Wh _ gk x) HG3.out;refine⟨⟨k+1,by omega,by go_num,ah ((h9.congr fun j hj=>?_).mono (by omega)),ah fun b0 hb0=>((HN1.out b0 hb0).trans (HN8.out b0 hb0)).trans (h10 b0 hb0)⟩,by simp[intOf];omega⟩;have h11:=agh.out j hj;have e:=HL3.out;subst e;rw[h11];by_cases hj1:j=1
     .subst hj1;simp
     .simp[hj1]
    .have agw:((L:Int)==3)=false:=by rw[beq_eq_false_iff_ne];omega
     have HL3:=ah hL3;clear hL3;go_upto_region 5 with fail
     go_still_tail 9,(by kernel_rfl)
     change wpList _ _ _ _ _ w1.drew
     go_wp2_with (at_delete;refine Gr.oL rfl _ _ 280 rfl 283 Gr.lawS underlying280 rfl (HM.out.block (w':=w1.drew) rfl) _ gk rfl HKEY.out Gr.Bj ?_;intro w2 s2 hs2 hm2 hg2;have HM2:=ah hm2;have HS2:=ah hs2;have HG2:Hid (w1.grownBy w2 (some (B L))):=ah ⟨hg2.os,hg2.tape,hg2.output,hg2.size,hg2.block⟩;clear hs2 hm2 hg2)
     obtain⟨h7,h8⟩:=Yo.out w2 s2 HS2.out HM2.out HG2.out;exact⟨⟨k+1,by omega,by go_num,ah ((h7.congr (AP.out HL3.out)).mono (by omega)),ah fun b0 hb0=>(HN1.out b0 hb0).trans (h8 b0 hb0)⟩,by simp[intOf];omega⟩
   .have hgb:gv.isEmpty=false:=by simpa using hgv
    have hfl:=afQ.out hgv;have acT:=ah (aa2 tb rb cap (N+k) L B _ gk gv w1 HT1.out Ro.out (by omega) hgv HKL.out);have UR:=ah hfl;clear hfl hgv;go_wp2_with (go_at_call 218;refine(acT.out).mono ?_;rintro e w2 ⟨rfl,h2,h3⟩;have HT2:=ah h2;have UL:=ah h3;clear h2 h3)
    exact⟨⟨k+1,by omega,by go_num,ah ((HT2.out.congr UR.out).mono (by omega)),ah fun b0 hb0=>(HN1.out b0 hb0).trans (UL.out b0 hb0)⟩,by simp[intOf];omega⟩
  .obtain rfl:k=n:=by omega
   have hki:¬ (k:Int)<k:=by omega
   go_wp2
   go_end0;refine⟨rfl,?_,HN.out⟩;have:=HT.out
   rwa [MU (by rw[HL.out];exact aY _)] at this
end Ov
end
end Go.Proofs.YtdbgldieilgnmaaGreatDoor
