/- K06 -/
import Derived.Test.YtdbgldieilgnmaaGreatDoorKHdrGood
import Derived.Test.YtdbgldieilgnmaaGreatDoorKHdrMkWalk
import Derived.WalkLawsBesides
import Derived.Deep.Onto
set_option linter.all false
set_option maxHeartbeats 8000000
set_option maxRecDepth 100000
namespace Go.Proofs.YtdbgldieilgnmaaGreatDoor
open Tryz
open Go.Proofs.Tryz renaming prog → qp0
open ChangeShapes WideShapes ChangeAt RowKit
theorem R9(l:List UInt8)(hl:l.length=512)(w:World)(ev:Value)(hE:eO w ev):Calls qp0 113 #[.agg (aL l)] w fun e w'=>e=.returned (Km (Plain.hread l))/\Below w.heap.size w w':=by
 by_cases hz:l=cZ
 .exact Lx l hl w ev hE (.inl hz)
 .by_cases hs:Plain.sealed l=false
  .exact Lx l hl w ev hE (.inr hs)
  .exact Ng l hl w ev hE hz (by simpa using hs)
section
section
variable {P:Program}{ops:Array Oper}{rest:List Oper}{o:Oper}{a:Act}{w:World}{Q:Exit->Act->World->Prop}
end
structure HB(w:World)(x:Hd)(wr:World):Prop where
 bJ:Below w.heap.size w wr
 row:wr.heap[w.heap.size]? = some (.cells (dQ x) 74 (0,0))
end
def ru(e:En)(a:Option Addr)(n c:Nat):Array Value:=#[.int .i64 e.kind,.string ⟨e.name.toArray⟩,.string ⟨e.link.toArray⟩,.int .i64 e.mode,.int .i64 e.uid,.int .i64 e.gid,.string ⟨e.user.toArray⟩,.string ⟨e.group.toArray⟩,.int .i64 e.sec,.int .i64 e.nano,.slice a n c]
section
abbrev EU:=En×(Option Addr×Nat×Nat)
def sS(x:EU):Array Value:=ru x.1 x.2.1 x.2.2.1 x.2.2.2
def fG(x:EU):List Value:=(sS x).toList
theorem iy(x:EU):(fG x).length=11:=rfl
structure Qg(w:World)(a:Option Addr)(n c:Nat)(S:List EU):Prop where
 sl:wh w 11 a n c (S.flatMap fG)
 dat:∀ x∈S,Bs w x.2.1 x.2.2.1 x.2.2.2 x.1.data
theorem Qg.keep{w w':World}{a:Option Addr}{n c:Nat}{S:List EU}(h:Qg w a n c S)(k:Keeps w w'):Qg w' a n c S:=⟨k.sl h.sl,fun x hx=>k.bs (h.dat x hx)⟩
theorem Qg.below{w w':World}{a:Option Addr}{n c:Nat}{S:List EU}(h:Qg w a n c S)(k:Below w.heap.size w w'):Qg w' a n c S:=h.keep (Below.keeps k)
theorem Qg.len{w:World}{a:Option Addr}{n c:Nat}{S:List EU}(h:Qg w a n c S):S.length=n:=by have:=h.sl.1;rw[Kh iy] at this;omega
theorem Qg.cap{w:World}{a:Option Addr}{n c:Nat}{S:List EU}(h:Qg w a n c S):n<=c:=h.sl.2.1
theorem Qg.max{w:World}{a:Option Addr}{n c:Nat}{S:List EU}(h:Qg w a n c S):c<=9223372036854775807:=h.sl.2.2.1
def En.zero:En:=⟨0,[],[],0,0,0,[],[],0,0,[]⟩
def Zk:EU:=(En.zero,(none,0,0))
theorem Qg.at{w:World}{a:Option Addr}{n c:Nat}{S:List EU}(h:Qg w a n c S)(k:Nat)(hk:k<n):∃ b off,a=some ⟨b,off,none⟩/\w.rangeAt b (off+k*11) (fG (S.getD k Zk)):=by
 have hl:=h.len;have hk':k<S.length:=by omega
 have e:S.getD k Zk=S[k]:=by simp[List.getD,kM hk']
 rw[e];have h0:=yx iy S k 0 hk' (by omega);obtain⟨b,off,ha,_⟩:=h.sl.2.2.2.1.at _ ((fG S[k])[0]'(by rw[iy];omega)) (by rw[h0];exact kM (by rw[iy];omega));refine⟨b,off,ha,fun j v hj=>?_⟩;have ahj:j<11:=by have:=(qbl.1 hj).1;rw[iy] at this;exact this
 have hj':=yx iy S k j hk' ahj;obtain⟨b',off',ha',hc⟩:=h.sl.2.2.2.1.at _ v (by rw[hj'];exact hj);rw[ha] at ha';simp only[Ba,Addr.mk.injEq,and_true] at ha';obtain⟨rfl,rfl⟩:=ha';rw[Zu];exact hc
theorem Qg.acD{w:World}{a:Option Addr}{n c:Nat}{S:List EU}(h:Qg w a n c S)(k:Nat)(hk:k<n):Bs w (S.getD k Zk).2.1 (S.getD k Zk).2.2.1 (S.getD k Zk).2.2.2 (S.getD k Zk).1.data:=by
 have hk':k<S.length:=by have:=h.len;omega
 have e:S.getD k Zk=S[k]:=by simp[List.getD,kM hk']
 rw[e];exact h.dat _ (VE hk')
theorem aeg(S:List EU):∀ u∈S.flatMap fG,u.oneCell'=true:=by
 intro u hu;obtain⟨x,_,hx⟩:=List.mem_flatMap.1 hu;simp only[fG,sS,ru,rD,xS,or_false] at hx;rcases hx with rfl|rfl|rfl|rfl|rfl|rfl|rfl|rfl|rfl|rfl|rfl <;> rfl
def fZ:Array Value:=#[.int .i64 0,.string ⟨#[]⟩,.string ⟨#[]⟩,.int .i64 0,.int .i64 0,.int .i64 0,.string ⟨#[]⟩,.string ⟨#[]⟩,.int .i64 0,.int .i64 0,.slice none 0 0]
theorem FW:(qp0.info? 42).map (fun i=>(i.zero,i.size,i.bytes))=some (some (.agg fZ),11,136):=by kernel_rfl
theorem alc(x:EU):(qp0.info? 42).map (·.size)=some (fG x).length:=by rw[iy];kernel_rfl
section
variable {P:Program}
theorem cK{ops:Array Oper}{rest:List Oper}{op:Oper}{a:Act}{w:World}{Q:Exit->Act->World->Prop}(hgd:op.guard=none)(ty:TypeId)(x:Operand)(ho:op.op=.load ty x)(b o:Nat)(hx:a.eval x=.pointer (some ⟨b,o,none⟩))(cs:Array Value)(d:TypeDesc)(hc:w.rangeAt b o cs.toList)(hu:P.underlying ty=some d)(hd:d.isRow=true)(hi:(P.info? ty).map (·.size)=some cs.toList.length)(h:wpList P ops Q rest (a.put op.dst (.agg cs)) w):wpList P ops Q (op::rest) a w :=wpList_load_mid hgd ty x ho b o hx cs.toList d hc hu hd hi (by rw[qbW];exact h)
end
def iw(w:World)(B:Nat)(x:EU):Prop:=w.ownsRow B 5 1 (.slice x.2.1 x.2.2.1 x.2.2.2) x.2.2.1 (x.1.data.map jJ)
structure akL(w0:World)(B:Nat)(L:List En)(a:Option Addr)(n c:Nat)(S:List EU)(w:World):Prop where
 bJ:Below B w0 w
 own:w.ownsRow B 42 11 (.slice a n c) n (S.flatMap fG)
 map:S.map (·.1)=L
 dat:∀ x∈S,iw w B x
 rise:S.Pairwise fun x y=>∀ b b',(x.2.1.map (·.block))=some b->(y.2.1.map (·.block))=some b'->b<b'
theorem akL.ens{w0 w:World}{B:Nat}{L:List En}{a:Option Addr}{n c:Nat}{S:List EU}(h:akL w0 B L a n c S w):Qg w a n c S :=⟨rP h.own,fun x hx=>rP (h.dat x hx)⟩
end
section
namespace Ov
open Gr (aZ aD aN aO aX aG aS aU)
theorem bS{P:Program}{fn:Func}{p q r:Tmp}{ty:TypeId}(h:fn.results=#[.cell p ty,.tmp q,.tmp r])(tmps:Array Value)(w:World)(g:Nat)(t:TypeId)(cs:Array Value)(fr:Nat×Nat)(d:TypeDesc)(v u:Value)(hp:tmps.getD p undef=.pointer (some ⟨g,0,none⟩))(hq:tmps.getD q undef=v)(hr:tmps.getD r undef=u)(hg:w.heap[g]? = some (.cells cs t fr))(hu:P.underlying ty=some d)(hd:(match d with|.struct _|.array _ _=>true|_=>false)=true)(hi:(P.info? ty).map (·.size)=some cs.size):(results fn tmps).run P w=.ok (.tuple #[.agg cs,v,u]) w:=by
 have hp':tmps[p]?.getD undef=.pointer (some ⟨g,0,none⟩):=by simpa using hp
 have hq':tmps[q]?.getD undef=v:=by simpa using hq
 have hr':tmps[r]?.getD undef=u:=by simpa using hr
 simp[results,h,hp',hq',hr',asAddr,run_loadVar_row w g t ty cs fr d hg hu hd hi]
structure IU(w:World)(H:Array Value)(z:Array Value)(wr:World):Prop where
 bJ:Below w.heap.size w wr
 rh:wr.heap[w.heap.size]? = some (.cells H 74)
 rr:wr.heap[w.heap.size+1]? = some (.cells z 42)
theorem IU.lt{w wr:World}{H:Array Value}{z:Array Value}(s:IU w H z wr):w.heap.size+1<wr.heap.size:=(fT.1 s.rr).1
theorem IU.keep{w wr w':World}{H:Array Value}{z:Array Value}(s:IU w H z wr)(k:Below (w.heap.size+2) wr w'):IU w H z w' :=⟨s.bJ.trans (k.mono (by omega)),by rw[k.block _ (by omega)];exact s.rh,by rw[k.block _ (by omega)];exact s.rr⟩
theorem IU.below{w wr w':World}{H:Array Value}{z:Array Value}(s:IU w H z wr)(k:Below wr.heap.size wr w'):IU w H z w':=s.keep (k.mono (by have:=s.lt;omega))
theorem IU.new(w:World)(H:Array Value):IU w H fZ ((w.alloc (.cells H 74)).alloc (.cells fZ 42)) :=⟨((Below.refl _ _).alloc (aY _) _).alloc (by simp) _,heap_alloc2_old _ _ _,heap_alloc2_new _ _ _⟩
theorem vD(e:En)(a:Option Addr)(n c:Nat):(qp0.info? 42).map (·.size)=some (ru e a n c).size:=by
 show _=some 11
 kernel_rfl
theorem Eo:(qp0.info? 42).map (·.size)=some fZ.size:=by
 show _=some 11
 kernel_rfl
theorem lq(e:En)(a:Option Addr)(n c:Nat):∀ u∈(ru e a n c).toList,u.oneCell'=true:=by
 intro u hu;simp only[ru,rD,xS,or_false] at hu;rcases hu with rfl|rfl|rfl|rfl|rfl|rfl|rfl|rfl|rfl|rfl|rfl <;> rfl
theorem Ck:∀ u∈fZ.toList,u.oneCell'=true:=lq ⟨0,[],[],0,0,0,[],[],0,0,[]⟩ none 0 0
def apW(w:World)(H:Array Value):World:=(w.alloc (.cells H 74)).alloc (.cells fZ 42)
def apV(r:En×Int×Int):Value:=.tuple #[.agg (ru r.1 none 0 0),.int .i64 r.2.1,.int .i64 r.2.2]
theorem Pe(h:Hd)(ag al:Option Addr)(ng cg nl cl:Nat)(ln lr:List UInt8)(w:World)(ht:h.ty.toNat<48\/54<h.ty.toNat):Calls qp0 152 #[.agg (dQ h),.slice ag ng cg,.slice al nl cl,.string ⟨ln.toArray⟩,.string ⟨lr.toArray⟩] w fun e w'=>e=.returned (apV (En.none,0,73))/\Below w.heap.size w w':=by
 have HA:Hid (IU w (dQ h) fZ (apW w (dQ h))):=ah (IU.new w (dQ h));have HO:=ah (jP h);have HI:=ah (mo h);have hx7:(dQ h)[7]? = some (.int .u8 (h.ty.toNat:Int)):=rfl;have hb:=h.ty.toNat_lt;generalize hty:(h.ty.toNat)=ty at *
 generalize dQ h=H at *
 go_enter func152,ntmps152;go_upto_region 1 with fail
 change Code.wp _ _ _ _ (apW w H)
 generalize apW w H=wa at *
 have h7:wa.cell? ⟨w.heap.size,7,none⟩=some (.int .u8 (ty:Int)):=by rw[aG HA.out.rh];exact hx7
 have hZ:=ah Eo;have hZO:=ah Ck;rcases ht with ht|ht
 .have t1:(ty:Int)<48:=by omega
  go_upto_region 2 with fail
  go_wp2_with (with_reducible refine wpList_store_row rfl 42 _ _ rfl (w.heap.size+1) rfl fZ rfl fZ 42 HA.out.rr rfl hZ.out hZO.out ?_)
  exact bodyPost_ret (bS rfl _ _ (w.heap.size+1) 42 fZ (0,0) _ _ _ rfl rfl rfl (setRow_heap _ _ _ _ _ _ HA.out.rr) underlying42 rfl hZ.out) rfl ⟨rfl,Below.setRow HA.out.bJ (by omega) _⟩
 .have t1:¬ (ty:Int)<48:=by omega
  have t2:(54:Int)<ty:=by omega
  go_upto_region 2 with fail
  go_wp2_with (with_reducible refine wpList_store_row rfl 42 _ _ rfl (w.heap.size+1) rfl fZ rfl fZ 42 HA.out.rr rfl hZ.out hZO.out ?_)
  exact bodyPost_ret (bS rfl _ _ (w.heap.size+1) 42 fZ (0,0) _ _ _ rfl rfl rfl (setRow_heap _ _ _ _ _ _ HA.out.rr) underlying42 rfl hZ.out) rfl ⟨rfl,Below.setRow HA.out.bJ (by omega) _⟩
theorem Il(h:Hd)(ag al:Option Addr)(ng cg nl cl:Nat)(g l:List Pr)(ln lr:List UInt8)(w:World)(hg:uD w ag ng cg g)(hl:uD w al nl cl l)(h1:48<=h.ty.toNat)(h2:h.ty.toNat<=54)(hs:(Plain.sparse g||Plain.sparse l)=true):Calls qp0 152 #[.agg (dQ h),.slice ag ng cg,.slice al nl cl,.string ⟨ln.toArray⟩,.string ⟨lr.toArray⟩] w fun e w'=>e=.returned (apV (En.none,0,61))/\Below w.heap.size w w':=by
 have HA:Hid (IU w (dQ h) fZ (apW w (dQ h))):=ah (IU.new w (dQ h));have HO:=ah (jP h);have HI:=ah (mo h);have hx7:(dQ h)[7]? = some (.int .u8 (h.ty.toNat:Int)):=rfl;have hb:=h.ty.toNat_lt;generalize hty:(h.ty.toNat)=ty at *
 generalize dQ h=H at *
 have HSG:=ah (fun wr (hb:Below w.heap.size w wr)=>mH ag ng cg g wr (Below.Sq hb hg));have HSL:=ah (fun wr (hb:Below w.heap.size w wr)=>mH al nl cl l wr (Below.Sq hb hl));clear hg hl;generalize Plain.sparse g=sg at *
 generalize Plain.sparse l=sl at *
 go_enter func152,ntmps152;go_upto_region 1 with fail
 change Code.wp _ _ _ _ (apW w H)
 generalize apW w H=wa at *
 have h7:wa.cell? ⟨w.heap.size,7,none⟩=some (.int .u8 (ty:Int)):=by rw[aG HA.out.rh];exact hx7
 have hZ:=ah Eo;have hZO:=ah Ck;have t1:¬ (ty:Int)<48:=by omega
 have t2:¬ (54:Int)<ty:=by omega
 cases sg with
 | true =>
  go_upto_region 4 with(go_at_call 188;(with_reducible refine(HSG.out _ HA.out.bJ).mono ?_);rintro e w2 ⟨rfl,hb2⟩;have HA2:=ah (HA.out.below hb2);clear hb2)
  go_wp2_with (with_reducible refine wpList_store_row rfl 42 _ _ rfl (w.heap.size+1) rfl fZ rfl fZ 42 HA2.out.rr rfl hZ.out hZO.out ?_)
  exact bodyPost_ret (bS rfl _ _ (w.heap.size+1) 42 fZ (0,0) _ _ _ rfl rfl rfl (setRow_heap _ _ _ _ _ _ HA2.out.rr) underlying42 rfl hZ.out) rfl ⟨rfl,Below.setRow HA2.out.bJ (by omega) _⟩
 | false =>
  obtain rfl:sl=true:=hs;go_upto_region 4 with(first|(go_at_call 188;(with_reducible refine(HSG.out _ HA.out.bJ).mono ?_);rintro e w2 ⟨rfl,hb2⟩;have HA2:=ah (HA.out.below hb2);clear hb2)|(go_at_call 188;(with_reducible refine(HSL.out _ HA2.out.bJ).mono ?_);rintro e w3 ⟨rfl,hb3⟩;have Bq:=ah (HA2.out.below hb3);clear hb3))
  go_wp2_with (with_reducible refine wpList_store_row rfl 42 _ _ rfl (w.heap.size+1) rfl fZ rfl fZ 42 Bq.out.rr rfl hZ.out hZO.out ?_)
  exact bodyPost_ret (bS rfl _ _ (w.heap.size+1) 42 fZ (0,0) _ _ _ rfl rfl rfl (setRow_heap _ _ _ _ _ _ Bq.out.rr) underlying42 rfl hZ.out) rfl ⟨rfl,Below.setRow Bq.out.bJ (by omega) _⟩
end Ov
end
section
def PrL(l:List Pr):Prop:=∀ p∈l,p.1.length<=140737488351232/\p.2.length<=140737488351232
namespace Ov
open Gr (aZ aD aN aO aX aG aS aU)
theorem Dy(l:List Pr)(k v:List UInt8)(h:Plain.latest l k=some v):∃ p∈l,p.2=v:=by
 induction l using Plain.yA with
 | h0=>cases h
 | h1 l p ih =>
  rw[Plain.ou] at h;split at h
  .exact⟨p,by simp,by simpa using h⟩
  .obtain⟨q,hq,he⟩:=ih h;exact⟨q,by simp[hq],he⟩
theorem zm(g l:List Pr)(hg:PrL g)(hl:PrL l)(k:List UInt8):(Plain.found g l k).1.length<=140737488351232:=by
 unfold Plain.found
 cases h1:Plain.latest l k with
 | some v =>
  obtain⟨p,hp,e⟩:=Dy l k v h1;simp only
  rw[<-e];exact(hl p hp).2
 | none =>
  simp only
  cases h2:Plain.latest g k with
  | some v =>
   obtain⟨p,hp,e⟩:=Dy g k v h2;simp only[Option.getD_some];rw[<-e];exact(hg p hp).2
  | none=>simp
theorem TN(g l:List Pr)(hg:PrL g)(hl:PrL l)(k a b:List UInt8)(ha:a.length<=140737488351232)(hb:b.length<=140737488351232):(Plain.lG g l k a b).length<=140737488351232:=by
 have:=zm g l hg hl k;unfold Plain.lG
 repeat' split
 all_goals assumption
theorem Oz(ty:UInt8)(n:List UInt8):(Plain.oo ty n=4\/Plain.oo ty n=3)↔(ty=49\/ty=50):=by
 unfold Plain.oo;by_cases h0:ty=48
 .subst h0;simp only[if_true];constructor
  .intro h;split at h <;> omega
  .intro h;exact absurd h (by decide)
 .rw[if_neg h0];by_cases h1:ty=49
  .subst h1;simp
  .rw[if_neg h1];by_cases h2:ty=50
   .subst h2;simp
   .rw[if_neg h2];constructor
    .intro h;split at h <;> omega
    .intro h;rcases h with h|h
     .exact absurd h h1
     .exact absurd h h2
theorem tV{w:World}{b:Nat}{cs:Array Value}{t:TypeId}(h:w.heap[b]? = some (.cells cs t)):w.rangeAt b 0 cs.toList:=fun j v hj=>by
 rw[lU,aG h];simpa using hj
def hps(h:Hd):List Pr:=[(kr,h.name),(mF,h.link),(lZ,h.user),(lX,h.group)]
def lps(ln lr:List UInt8):List Pr:=[(kr,ln),(mF,lr)]
def Dc(h:Hd)(g l:List Pr)(ln lr:List UInt8):Nat->Plain.Lv:=EN (EN (EN (EN (fun _=>Plain.JN) 0 (hps h)) 1 g) 2 (lps ln lr)) 3 l
theorem RI(h:Hd)(g l:List Pr)(ln lr k:List UInt8):Plain.JF (Dc h g l ln lr 0) (Dc h g l ln lr 1) (Dc h g l ln lr 2) (Dc h g l ln lr 3) k=Plain.jB h g l ln lr k:=by
 unfold Dc Plain.jB Plain.adw Plain.ad3 hps lps;simp[EN]
def aaP(h:Hd):Array Value:=#[.string ⟨kr.toArray⟩,.string ⟨h.name.toArray⟩,.string ⟨mF.toArray⟩,.string ⟨h.link.toArray⟩,.string ⟨lZ.toArray⟩,.string ⟨h.user.toArray⟩,.string ⟨lX.toArray⟩,.string ⟨h.group.toArray⟩]
def abb(ln lr:List UInt8):Array Value:=#[.string ⟨kr.toArray⟩,.string ⟨ln.toArray⟩,.string ⟨mF.toArray⟩,.string ⟨lr.toArray⟩]
theorem aaA(h:Hd)(w:World):uD (w.alloc (.cells (aaP h) 160)) (some ⟨w.heap.size,0,none⟩) 4 4 (hps h):=pq w 160 2 4 (aaP h) rfl (by unfold maxLen;omega)
theorem aaS(ln lr:List UInt8)(w:World):uD (w.alloc (.cells (abb ln lr) 160)) (some ⟨w.heap.size,0,none⟩) 2 2 (lps ln lr):=pq w 160 2 2 (abb ln lr) rfl (by unfold maxLen;omega)
theorem WK(h:Hd):∀ p∈hps h,p.1.length<=9223372036854775807:=by
 intro p hp;simp only[hps,rD,xS,or_false] at hp;rcases hp with rfl|rfl|rfl|rfl <;> simp[kr,mF,lZ,lX]
theorem Yd(ln lr:List UInt8):∀ p∈lps ln lr,p.1.length<=9223372036854775807:=by
 intro p hp;simp only[lps,rD,xS,or_false] at hp;rcases hp with rfl|rfl <;> simp[kr,mF]
structure Lt(w:World)(H z:Array Value)(tb rb cap:Nat)(B:Nat->Nat)(m:Nat->Plain.Lv)(N:Nat)(wr:World):Prop where
 ap:IU w H z wr
 tab:Tab wr tb rb cap B m N
 lo:∀ j,j<4->w.heap.size+2<=B j
theorem Lt.below{w wr w':World}{H z:Array Value}{tb rb cap N:Nat}{B:Nat->Nat}{m:Nat->Plain.Lv}(h:Lt w H z tb rb cap B m N wr)(k:Below wr.heap.size wr w'):Lt w H z tb rb cap B m N w':=⟨h.ap.below k,h.tab.below k,h.lo⟩
theorem Lt.turn{w wr w':World}{H z:Array Value}{tb rb cap N N':Nat}{B:Nat->Nat}{m m':Nat->Plain.Lv}(h:Lt w H z tb rb cap B m N wr)(ht:Tab w' tb rb cap B m' N')(hn:∀ b0,(∀ j,j<4->b0<=B j)->Tn b0 wr w'):Lt w H z tb rb cap B m' N' w' :=⟨h.ap.keep (hn _ h.lo).bJ,ht,h.lo⟩
structure Le(w:World)(H z:Array Value)(tb rb cap:Nat)(B:Nat->Nat)(m:Nat->Plain.Lv)(N ge:Nat)(C:Array Value)(wr:World):Prop where
 lt:Lt w H z tb rb cap B m N wr
 row:wr.heap[ge]? = some (.cells C 42)
 lo:w.heap.size+2<=ge
 n1:tb<ge
 n2:rb<ge
 n3:∀ j,j<4->B j<ge
theorem Le.new{w wr:World}{H z:Array Value}{tb rb cap N:Nat}{B:Nat->Nat}{m:Nat->Plain.Lv}(h:Lt w H z tb rb cap B m N wr)(C:Array Value):Le w H z tb rb cap B m N wr.heap.size C (wr.alloc (.cells C 42)) :=⟨h.below ((Below.refl _ _).alloc (aY _) _),JL,h.ap.lt,World.block_lt_of_cell? (w:=wr) (a:=⟨tb,0,none⟩) h.tab.hd,World.block_lt_of_cell? (w:=wr) (a:=⟨rb,0,none⟩) (h.tab.row 0 (by omega)),fun j hj=>h.tab.lt j hj⟩
theorem Le.below{w wr w':World}{H z:Array Value}{tb rb cap N ge:Nat}{B:Nat->Nat}{m:Nat->Plain.Lv}{C:Array Value}(h:Le w H z tb rb cap B m N ge C wr)(k:Below wr.heap.size wr w'):Le w H z tb rb cap B m N ge C w' :=⟨h.lt.below k,aU h.row k,h.lo,h.n1,h.n2,h.n3⟩
theorem Le.set{w wr:World}{H z:Array Value}{tb rb cap N ge:Nat}{B:Nat->Nat}{m:Nat->Plain.Lv}{C:Array Value}(h:Le w H z tb rb cap B m N ge C wr)(j:Nat)(v:Value):Le w H z tb rb cap B m N ge (C.setIfInBounds j v) (wr.setCell ⟨ge,j,none⟩ v):=by
 have hg:=aD wr ge j v;have hb:Below (w.heap.size+2) wr (wr.setCell ⟨ge,j,none⟩ v):=(Below.refl _ _).setCell h.lo v;refine⟨⟨h.lt.ap.keep hb,⟨?_,fun i hi=>?_,fun i hi=>?_,h.lt.tab.inj,h.lt.tab.c4,h.lt.tab.cm⟩,h.lt.lo⟩,aO h.row v,h.lo,h.n1,h.n2,h.n3⟩
 .exact hg.cell h.lt.tab.hd (fun e=>by have:=h.n1;have:=pQ e;simp only at this;omega)
 .exact hg.cell (h.lt.tab.row i hi) (fun e=>by have:=h.n2;have:=pQ e;simp only at this;omega)
 .obtain⟨s,h1,h2⟩:=h.lt.tab.lv i hi;exact⟨s,h1,Gr.Mp.kept h2 hg (fun e=>by have:=h.n3 i hi;have:=pQ e;omega)⟩
theorem acK(t:Int×Int):(aQ t).all (·.oneCell')=true:=by
 simp[aQ];exact⟨rfl,rfl⟩
theorem Le.Vd{w wr:World}{H z:Array Value}{tb rb cap N ge:Nat}{B:Nat->Nat}{m:Nat->Plain.Lv}{e:En}{a:Option Addr}{n c:Nat}(h:Le w H z tb rb cap B m N ge (ru e a n c) wr):wr.there ge 8 2:=fun j hj=>by
 refine⟨?_,aS h.row _⟩;rw[aG h.row];rcases j with _|_|j
 .rfl
 .rfl
 .omega
theorem Le.time{w wr:World}{H z:Array Value}{tb rb cap N ge:Nat}{B:Nat->Nat}{m:Nat->Plain.Lv}{e:En}{a:Option Addr}{n c:Nat}(h:Le w H z tb rb cap B m N ge (ru e a n c) wr)(t:Int×Int):Le w H z tb rb cap B m N ge (ru {e with sec:=t.1,nano:=t.2} a n c) (wr.setCells ge 8 (aQ t).toList) :=(h.set 8 (.int .i64 t.1)).set 9 (.int .i64 t.2)
theorem Oj(h:Hd)(ag al:Option Addr)(ng cg nl cl:Nat)(g l:List Pr)(ln lr:List UInt8)(w:World)(ev:Value)(hg:uD w ag ng cg g)(hl:uD w al nl cl l)(h1:48<=h.ty.toNat)(h2:h.ty.toNat<=54)(hs:Plain.sparse g=false)(hs2:Plain.sparse l=false)(hgl:PrL g)(hll:PrL l)(hng:ng<=4194304)(hnl:nl<=4194304)(hhn:h.name.length<=140737488351232)(hln:ln.length<=140737488351232)(hm:uF w)(he:eO w ev):Calls qp0 152 #[.agg (dQ h),.slice ag ng cg,.slice al nl cl,.string ⟨ln.toArray⟩,.string ⟨lr.toArray⟩] w fun e w'=>e=.returned (apV (Plain.gG h g l ln lr))/\Below w.heap.size w w':=by
 have HA:Hid (IU w (dQ h) fZ (apW w (dQ h))):=ah (IU.new w (dQ h));have HO:=ah (jP h);have HI:=ah (mo h);have hx0:(dQ h)[0]? = some (.string ⟨h.name.toArray⟩):=rfl;have hx1:(dQ h)[1]? = some (.string ⟨h.link.toArray⟩):=rfl;have hx2:(dQ h)[2]? = some (.int .i64 h.mode):=rfl;have hx3:(dQ h)[3]? = some (.int .i64 h.uid):=rfl;have hx4:(dQ h)[4]? = some (.int .i64 h.gid):=rfl;have hx5:(dQ h)[5]? = some (.int .i64 h.size):=rfl;have hx6:(dQ h)[6]? = some (.int .i64 h.mtime):=rfl;have hx7:(dQ h)[7]? = some (.int .u8 (h.ty.toNat:Int)):=rfl;have hx8:(dQ h)[8]? = some (.string ⟨h.user.toArray⟩):=rfl;have RN:(dQ h)[9]? = some (.string ⟨h.group.toArray⟩):=rfl;have abP:=ah (fun (wr:World)(tb rb cap:Nat)(B:Nat->Nat)(hT:Tab wr tb rb cap B (fun _=>Plain.JN) 0)=>Br tb rb cap 0 0 B (fun _=>Plain.JN) (some ⟨wr.heap.size,0,none⟩) 4 4 (hps h) _ (hT.below ((Below.refl _ _).alloc (aY _) (.cells (aaP h) 160))) (by decide) (aaA h wr) (by decide) (by decide) (WK h));have abR:=ah (fun (wr:World)(tb rb cap N:Nat)(B:Nat->Nat)(m:Nat->Plain.Lv)(hN:N<=16777216)(hT:Tab wr tb rb cap B m N)=>Br tb rb cap N 2 B m (some ⟨wr.heap.size,0,none⟩) 2 2 (lps ln lr) _ (hT.below ((Below.refl _ _).alloc (aY _) (.cells (abb ln lr) 160))) (by decide) (aaS ln lr wr) (by decide) hN (Yd ln lr))
 have ab5:=ah (fun (wr:World)(hb:Below w.heap.size w wr)(tb rb cap N:Nat)(B:Nat->Nat)(m:Nat->Plain.Lv)(hN:N<=16777216)(hT:Tab wr tb rb cap B m N)=>Br tb rb cap N 1 B m ag ng cg g wr hT (by decide) (Below.Sq hb hg) hng hN (fun p hp=>by have:=(hgl p hp).1;omega));have ab1:=ah (fun (wr:World)(hb:Below w.heap.size w wr)(tb rb cap N:Nat)(B:Nat->Nat)(m:Nat->Plain.Lv)(hN:N<=16777216)(hT:Tab wr tb rb cap B m N)=>Br tb rb cap N 3 B m al nl cl l wr hT (by decide) (Below.Sq hb hl) hnl hN (fun p hp=>by have:=(hll p hp).1;omega));have HSG:=ah (fun wr (hb:Below w.heap.size w wr)=>mH ag ng cg g wr (Below.Sq hb hg));have HSL:=ah (fun wr (hb:Below w.heap.size w wr)=>mH al nl cl l wr (Below.Sq hb hl));rw[hs] at HSG;rw[hs2] at HSL;have HNG:=ah hng;have HNL:=ah hnl;clear hg hl hng hnl;have hb:=h.ty.toNat_lt;have t1:¬ ((h.ty.toNat:Nat):Int)<48:=by omega
 have t2:¬ (54:Int)<((h.ty.toNat:Nat):Int):=by omega
 have HH:Hid (dQ h=dQ h):=ah rfl;generalize hHH:dQ h=H at HA HO HI hx0 hx1 hx2 hx3 hx4 hx5 hx6 hx7 hx8 RN ⊢;have HX0:=ah hx0;have Ta:=ah hx1;have HX2:=ah hx2;have HX3:=ah hx3;have HX4:=ah hx4;have HX5:=ah hx5;have HX6:=ah hx6;have UK:=ah hx8;have HX9:=ah RN;have GY:=ah hx7;clear hx0 hx1 hx2 hx3 hx4 hx5 hx6 hx7 hx8 RN hHH HH;go_enter func152,ntmps152;go_upto_region 1 with fail
 change Code.wp _ _ _ _ (apW w H)
 generalize apW w H=wa at *
 have h7:wa.cell? ⟨w.heap.size,7,none⟩=some (.int .u8 (h.ty.toNat:Int)):=by rw[aG HA.out.rh];exact GY.out
 go_upto_region 6 with(first|(go_at_call 188;(with_reducible refine(HSG.out _ HA.out.bJ).mono ?_);rintro e w2 ⟨rfl,hb2⟩;have HA2:=ah (HA.out.below hb2);clear hb2)|(go_at_call 188;(with_reducible refine(HSL.out _ HA2.out.bJ).mono ?_);rintro e w3 ⟨rfl,hb3⟩;have Bq:=ah (HA2.out.below hb3);clear hb3)|(go_at_call 189;refine(aad _).mono ?_;rintro e w4 ⟨tb,rb,cap,B,rfl,hT,hB,hb4⟩;have HLT:=ah (Lt.mk (Bq.out.below hb4) hT (fun j hj=>tT Bq.out.lt (hB j hj)));clear hT hB hb4))
 have hc0:w4.cell? ⟨w.heap.size,0,none⟩=some (.string ⟨h.name.toArray⟩):=by rw[aG HLT.out.ap.rh];exact HX0.out
 have hc1:w4.cell? ⟨w.heap.size,1,none⟩=some (.string ⟨h.link.toArray⟩):=by rw[aG HLT.out.ap.rh];exact Ta.out
 have hc8:w4.cell? ⟨w.heap.size,8,none⟩=some (.string ⟨h.user.toArray⟩):=by rw[aG HLT.out.ap.rh];exact UK.out
 have hc9:w4.cell? ⟨w.heap.size,9,none⟩=some (.string ⟨h.group.toArray⟩):=by rw[aG HLT.out.ap.rh];exact HX9.out
 have HL0:=ah (abP.out w4 tb rb cap B HLT.out.tab);go_upto_region 7 with(go_at_call 190;refine(HL0.out).mono ?_;rintro e w5 ⟨rfl,hT,hn⟩;have aa6:=ah ((HLT.out.below ((Below.refl _ _).alloc (aY _) (.cells (aaP h) 160))).turn hT hn);clear hT hn)
 clear hc0 hc1 hc8 hc9;have HL1:=ah (ab5.out w5 aa6.out.ap.bJ tb rb cap _ B _ (by omega) aa6.out.tab);go_upto_region 8 with(go_at_call 190;refine(HL1.out).mono ?_;rintro e w6 ⟨rfl,hT,hn⟩;have aei:=ah (aa6.out.turn hT hn);clear hT hn)
 have HL2:=ah (abR.out w6 tb rb cap _ B _ (by have:=HNG.out;omega) aei.out.tab);go_upto_region 9 with(go_at_call 190;refine(HL2.out).mono ?_;rintro e w7 ⟨rfl,hT,hn⟩;have ZJ:=ah ((aei.out.below ((Below.refl _ _).alloc (aY _) (.cells (abb ln lr) 160))).turn hT hn);clear hT hn)
 have HL3:=ah (ab1.out w7 ZJ.out.ap.bJ tb rb cap _ B _ (by have:=HNG.out;omega) ZJ.out.tab);go_upto_region 10 with(go_at_call 190;refine(HL3.out).mono ?_;rintro e w8 ⟨rfl,hT,hn⟩;have TK:Hid (Lt w H fZ tb rb cap B (Dc h g l ln lr) _ w8):=ah (ZJ.out.turn hT hn);clear hT hn)
 clear HLT aa6 aei ZJ HL0 HL1 HL2 HL3 abP ab5 abR ab1 HSG HSL HA HA2 Bq;have HG:=ah (RI h g l ln lr);generalize Dc h g l ln lr=m at TK HG;generalize 0+4+ng+2+nl=N at TK;have IJ:Hid (∀ (wr:World)(T:Lt w H fZ tb rb cap B m N wr)(k:List UInt8)(plain most:Int)(hk:k.length<=9223372036854775807)(hkk:Plain.jB h g l ln lr k=Plain.full (Plain.found g l k).1),
   Calls qp0 191 #[.pointer (some ⟨tb,0,none⟩),.string ⟨k.toArray⟩,.int .i64 plain,.int .i64 most] wr fun e w'=>e=.returned (.tuple #[.int .i64 (Plain.xq g l k plain most).1,.bool (Plain.xq g l k plain most).2])/\Below wr.heap.size wr w') :=ah (fun wr T k plain most hk hkk=>qM tb rb cap N B m k plain most wr ev T.tab hk (he.below T.ap.bJ) (Plain.found g l k).1 ((HG.out k).trans hkk) (zm g l hgl hll k))
 have hc5:w8.cell? ⟨w.heap.size,5,none⟩=some (.int .i64 h.size):=by rw[aG TK.out.ap.rh];exact HX5.out
 have HN1:=ah (IJ.out w8 TK.out yE h.size 9223372036854775807 (by decide) (Plain.OC h g l ln lr));go_upto_region 11 with(go_at_call 191;(refine(HN1.out).mono ?_);rintro e w9 ⟨rfl,Xi⟩;have aaI:=ah (TK.out.below Xi);clear Xi)
 have hc3:w9.cell? ⟨w.heap.size,3,none⟩=some (.int .i64 h.uid):=by rw[aG aaI.out.ap.rh];exact HX3.out
 have UL:=ah (IJ.out w9 aaI.out J7 h.uid 2147483647 (by decide) (Plain.SN h g l ln lr));clear hc5 HN1;go_upto_region 12 with(go_at_call 191;(refine(UL.out).mono ?_);rintro e MO ⟨rfl,P9⟩;have Q7:=ah (aaI.out.below P9);clear P9)
 have hc4:MO.cell? ⟨w.heap.size,4,none⟩=some (.int .i64 h.gid):=by rw[aG Q7.out.ap.rh];exact HX4.out
 have HN3:=ah (IJ.out MO Q7.out LY h.gid 2147483647 (by decide) (Plain.Uu h g l ln lr));clear hc3 UL;go_upto_region 13 with(go_at_call 191;(refine(HN3.out).mono ?_);rintro e w11 ⟨rfl,afo⟩;have Cg:=ah (Q7.out.below afo);clear afo)
 clear hc4 HN3 TK aaI Q7 IJ;have ae8:¬ (h.ty<48\/54<h.ty):=by
  rw[qbT,qbT];show ¬ (h.ty.toNat<48\/54<h.ty.toNat);omega
 generalize hr:Plain.gG h g l ln lr=r;have HE:=ah hr;unfold Plain.gG at hr;rw[if_neg ae8,hs,hs2] at hr;simp only[Bool.or_self,jI,if_false] at hr;have HR:=ah hr;clear hr ae8;generalize Plain.xq g l yE h.size 9223372036854775807=n1 at *
 generalize Plain.xq g l J7 h.uid 2147483647=n2 at *
 generalize Plain.xq g l LY h.gid 2147483647=n3 at *
 obtain⟨s1,s2⟩:=n1;obtain⟨u1,u2⟩:=n2;obtain⟨g1,g2⟩:=n3;simp only at *
 have hZ:=ah Eo;have hZO:=ah Ck;by_cases hok:(s2&&u2&&g2)=true
 .have hrr:=HR.out;rw[if_pos hok] at hrr;have HR2:=ah hrr;simp only[fE] at hok;obtain⟨⟨rfl,rfl⟩,rfl⟩:=hok;clear HR hrr;have hc2:w11.cell? ⟨w.heap.size,2,none⟩=some (.int .i64 h.mode):=by rw[aG Cg.out.ap.rh];exact HX2.out
  have hc6:w11.cell? ⟨w.heap.size,6,none⟩=some (.int .i64 h.mtime):=by rw[aG Cg.out.ap.rh];exact HX6.out
  go_upto_region 16 with fail
  change Code.wp _ _ _ _ (w11.alloc (.cells (ru ⟨0,[],[],bits .and .i64 h.mode 4095,u1,g1,[],[],h.mtime,0,[]⟩ none 0 0) 42))
  have HE0:=ah (Le.new Cg.out (ru ⟨0,[],[],bits .and .i64 h.mode 4095,u1,g1,[],[],h.mtime,0,[]⟩ none 0 0));clear hc2 hc6;generalize bits .and .i64 h.mode 4095=md at *
  generalize hge:w11.heap.size=ge at *
  generalize w11.alloc (.cells (ru ⟨0,[],[],md,u1,g1,[],[],h.mtime,0,[]⟩ none 0 0) 42)=w12 at *
  clear Cg hge;have afC:Hid (∀ (wr:World)(C:Array Value)(T:Le w H fZ tb rb cap B m N ge C wr)(k:List UInt8)(hk:k.length<=9223372036854775807),
   Calls qp0 192 #[.pointer (some ⟨tb,0,none⟩),.string ⟨k.toArray⟩] wr fun e w'=>e=.returned (abm (Plain.jB h g l ln lr k))/\Below wr.heap.size wr w') :=ah (fun wr C T k hk=>by have:=Q6 tb rb cap N B m k wr T.lt.tab hk;rw[HG.out k] at this;exact this)
  have Zm:=ah (afC.out w12 _ HE0.out qO (by decide));rw[Plain.Li] at Zm;have hxl:=zm g l hgl hll qO;unfold Plain.QH at HR2;generalize (Plain.found g l qO).1=x at Zm HR2 hxl;have hf:Plain.full x=(if x=[] then none else some x):=rfl;have hf1:(Plain.full x).isSome=!x.isEmpty:=by unfold Plain.full;cases x <;> rfl
  have hf2:(Plain.full x).getD []=x:=by unfold Plain.full;cases x <;> rfl
  unfold abm at Zm;rw[hf1,hf2] at Zm;have hbx:(x=[])↔((!x.isEmpty)=false):=by cases x <;> simp
  generalize (!x.isEmpty)=bx at Zm hbx;have Xr:=ah hbx;clear hf hf1 hf2 hbx;go_upto_if 115 with(go_at_call 192;(refine(Zm.out).mono ?_);rintro e w13 ⟨rfl,aeV⟩;have UU:=ah (HE0.out.below aeV);clear aeV);clear Zm HE0;go_cut [22,23,115] from 116 to 124 (fun v22 v ah0 wx=>∃ t:Int×Int,Hid ((if x=[] then((h.mtime,(0:Int)),(0:Int)) else Plain.jv x)=(t,0))/\Hid (Le w H fZ tb rb cap B m N ge (ru ⟨0,[],[],md,u1,g1,[],[],t.1,t.2,[]⟩ none 0 0) wx))
  case first =>
   by_cases hx:x=[]
   .obtain rfl:=Xr.out.1 hx;subst hx;go_wp2
    go_meet;exact⟨(h.mtime,0),ah rfl,UU⟩
   .obtain rfl:bx=true:=by
     cases bx with
     | true=>rfl
     | false=>exact absurd (Xr.out.2 rfl) hx
    have HST:=ah (BQ x w13 ev hxl (hm.below UU.out.lt.ap.bJ) (he.below UU.out.lt.ap.bJ));generalize hp:Plain.jv x=q at *
    obtain⟨t,c⟩:=q;have HXN:=ah hx;have aer:=ah (Yg t);have afB:=ah (acK t);clear hx;by_cases hc:c=0
    .subst hc;go_wp2_with (first|(go_at_call 193;(refine(HST.out).mono ?_);rintro e w14 ⟨rfl,WU⟩;have HE2:=ah (UU.out.below WU);clear WU)|(refine wpList_store_mid rfl 40 _ _ rfl ge 8 (aQ t) rfl rfl (Le.Vd HE2.out) aer.out afB.out ?_))
     go_meet;refine⟨t,ah (by rw[if_neg HXN.out]),ah ?_⟩;exact HE2.out.time t
    .have hcb:(c != 0)=true:=by rw[bne_iff_ne];exact hc
     have hrr:=HR2.out;rw[if_neg HXN.out,if_pos hc] at hrr;subst hrr;clear HR2 hc;go_upto_region 21 with(first|(go_at_call 193;(refine(HST.out).mono ?_);rintro e w14 ⟨rfl,WU⟩;have HE2:=ah (UU.out.below WU);clear WU)|(refine wpList_store_mid rfl 40 _ _ rfl ge 8 (aQ t) rfl rfl (Le.Vd HE2.out) aer.out afB.out ?_;have SX:=ah (HE2.out.time t)))
     go_wp2_with (with_reducible refine wpList_store_row rfl 42 _ _ rfl (w.heap.size+1) rfl fZ rfl fZ 42 SX.out.lt.ap.rr rfl hZ.out hZO.out ?_)
     exact bodyPost_ret (bS rfl _ _ (w.heap.size+1) 42 fZ (0,0) _ _ _ rfl rfl rfl (setRow_heap _ _ _ _ _ _ SX.out.lt.ap.rr) underlying42 rfl hZ.out) rfl ⟨by rw[HE.out];rfl,Below.setRow SX.out.lt.ap.bJ (by omega) _⟩
  case rest =>
   obtain⟨t,ht,HE2⟩:=hcut;have hrr:=HR2.out;rw[ht.out] at hrr;simp only[ne_eq,not_true,if_false] at hrr;have HGT:Hid (∀ (wr:World) (C:Array Value) (T:Le w H fZ tb rb cap B m N ge C wr) (k nm:List UInt8) (hk:k.length<=9223372036854775807) (hnm:(Plain.jB h g l ln lr k).getD []=nm),
    Calls qp0 192 #[.pointer (some ⟨tb,0,none⟩),.string ⟨k.toArray⟩] wr fun e w'=>e=.returned (.tuple #[.string ⟨nm.toArray⟩,.bool (Plain.jB h g l ln lr k).isSome])/\Below wr.heap.size wr w') :=ah (fun wr C T k nm hk hnm=>by have:=afC.out wr C T k hk;unfold abm at this;rw[hnm] at this;exact this)
   have ahi:=TN g l hgl hll kr ln h.name hln hhn;have hn1:=Plain.Pf h g l ln lr;have hn2:=Plain.Lc h g l ln lr;have hn3:=Plain.JZ h g l ln lr;have hn4:=Plain.Og h g l ln lr;generalize Plain.lG g l kr ln h.name=nm at hrr hn1 ahi;generalize Plain.lG g l lZ [] h.user=us at hrr hn2;generalize Plain.lG g l lX [] h.group=gr at hrr hn3;generalize Plain.lG g l mF lr h.link=lk at hrr hn4;have HRR:=ah hrr;have HN1:=ah hn1;have UL:=ah hn2;have HN3:=ah hn3;have Zl:=ah hn4;clear hrr hn1 hn2 hn3 hn4 UU;have HG2:=ah (HGT.out _ _ HE2.out kr nm (by decide) HN1.out);generalize (Plain.jB h g l ln lr kr).isSome=b1 at HG2;go_upto_region 23 with(go_at_call 192;(refine(HG2.out).mono ?_);rintro e w15 ⟨rfl,aeK⟩;have SX:=ah (HE2.out.below aeK);clear aeK;have hx1:=aG SX.out.row 1;have hx2:=aS SX.out.row 1)
   have HE4:Hid (Le w H fZ tb rb cap B m N ge (ru ⟨0,nm,[],md,u1,g1,[],[],t.1,t.2,[]⟩ none 0 0) (w15.setCell ⟨ge,1,none⟩ (.string ⟨nm.toArray⟩))):=ah (SX.out.set 1 (.string ⟨nm.toArray⟩));generalize w15.setCell ⟨ge,1,none⟩ (.string ⟨nm.toArray⟩)=w16 at *
   clear SX HG2 hx1 hx2;have HG3:=ah (HGT.out _ _ HE4.out lZ us (by decide) UL.out);generalize (Plain.jB h g l ln lr lZ).isSome=b2 at HG3;go_upto_region 24 with(go_at_call 192;(refine(HG3.out).mono ?_);rintro e w17 ⟨rfl,afU⟩;have HE5:=ah (HE4.out.below afU);clear afU;have hx1:=aG HE5.out.row 6;have hx2:=aS HE5.out.row 6)
   have HE6:Hid (Le w H fZ tb rb cap B m N ge (ru ⟨0,nm,[],md,u1,g1,us,[],t.1,t.2,[]⟩ none 0 0) (w17.setCell ⟨ge,6,none⟩ (.string ⟨us.toArray⟩))):=ah (HE5.out.set 6 (.string ⟨us.toArray⟩));generalize w17.setCell ⟨ge,6,none⟩ (.string ⟨us.toArray⟩)=w18 at *
   clear HE4 HE5 HG3 hx1 hx2;have HG4:=ah (HGT.out _ _ HE6.out lX gr (by decide) HN3.out);generalize (Plain.jB h g l ln lr lX).isSome=b3 at HG4;go_upto_region 25 with(go_at_call 192;(refine(HG4.out).mono ?_);rintro e w19 ⟨rfl,afg⟩;have HE7:=ah (HE6.out.below afg);clear afg;have hx1:=aG HE7.out.row 7;have hx2:=aS HE7.out.row 7)
   have HE8:Hid (Le w H fZ tb rb cap B m N ge (ru ⟨0,nm,[],md,u1,g1,us,gr,t.1,t.2,[]⟩ none 0 0) (w19.setCell ⟨ge,7,none⟩ (.string ⟨gr.toArray⟩))):=ah (HE7.out.set 7 (.string ⟨gr.toArray⟩));generalize w19.setCell ⟨ge,7,none⟩ (.string ⟨gr.toArray⟩)=w20 at *
   clear HE6 HE7 HG4 hx1 hx2;have UN:w20.cell? ⟨w.heap.size,7,none⟩=some (.int .u8 (h.ty.toNat:Int)):=by rw[aG HE8.out.lt.ap.rh];exact GY.out
   have hc1:w20.cell? ⟨ge,1,none⟩=some (.string ⟨nm.toArray⟩):=by rw[aG HE8.out.row];rfl
   have hd0:=aG HE8.out.row 0;have hd1:=aS HE8.out.row 0;have HKD:=ah (Pk h.ty nm w20 (by omega));have hlk:=Oz h.ty nm;go_upto_region 26 with(go_at_call 194;(refine(HKD.out).mono ?_);rintro e w21 ⟨rfl,rfl⟩)
   have hk0:h.ty=48\/¬ h.ty=48:=Decidable.em _;have h48:h.ty=48->Plain.oo h.ty nm=1\/Plain.oo h.ty nm=2:=fun e=>by
    unfold Plain.oo;rw[if_pos e];split <;> simp
   generalize Plain.oo h.ty nm=K at *
   have WW:Hid (Le w H fZ tb rb cap B m N ge (ru ⟨K,nm,[],md,u1,g1,us,gr,t.1,t.2,[]⟩ none 0 0) (w20.setCell ⟨ge,0,none⟩ (.int .i64 K))):=ah (HE8.out.set 0 (.int .i64 K));generalize w20.setCell ⟨ge,0,none⟩ (.int .i64 K)=w22 at *
   clear HE8 HKD UN hc1 hd0 hd1;have hc0:w22.cell? ⟨ge,0,none⟩=some (.int .i64 K):=by rw[aG WW.out.row];rfl
   have UN:w22.cell? ⟨w.heap.size,7,none⟩=some (.int .u8 (h.ty.toNat:Int)):=by rw[aG WW.out.lt.ap.rh];exact GY.out
   have GK:(((h.ty.toNat:Nat):Int) != 48)=!decide (h.ty=48):=by
    by_cases e:h.ty=48
    .rw[e];rfl
    .have:¬ h.ty.toNat=48:=fun e2=>e (VL.1 e2)
     have:(((h.ty.toNat:Nat):Int) != 48)=true:=by rw[bne_iff_ne];omega
     rw[this];simp[e]
   by_cases hl:K=4\/K=3
   .have hty:=hlk.1 hl;have adF:¬ h.ty=48:=by rcases hty with e|e <;> (rw[e];decide)
    have hrr:=HRR.out;rw[if_pos hty,if_neg adF] at hrr;subst hrr;have hbt:(((h.ty.toNat:Nat):Int) != 48)=true:=by rw[GK];simp[adF]
    have HG5:=ah (HGT.out _ _ WW.out mF lk (by decide) Zl.out);generalize (Plain.jB h g l ln lr mF).isSome=b4 at HG5;clear GK hlk h48 hk0 hty adF HRR;have hl4:(K==4)=true\/((K==4)=false/\(K==3)=true):=by
     rcases hl with e|e
     .left;rw[e];rfl
     .right;rw[e];exact⟨rfl,rfl⟩
    clear hl;have HTY:=ah UN;clear UN;have ahm:Hid (∀ Zn,Le w H fZ tb rb cap B m N ge (ru ⟨K,nm,lk,md,u1,g1,us,gr,t.1,t.2,[]⟩ none 0 0) Zn->Zn.cell? ⟨w.heap.size,7,none⟩=some (.int .u8 (h.ty.toNat:Int))/\Zn.rangeAt ge 0 (ru ⟨K,nm,lk,md,u1,g1,us,gr,t.1,t.2,[]⟩ none 0 0).toList):=ah (fun Zn h23=>⟨by rw[aG h23.lt.ap.rh];exact GY.out,tV h23.row⟩);rcases hl4 with hk4|⟨hk4,hk3⟩
    all_goals
     go_upto_region 28 with(go_at_call 192;(refine(HG5.out).mono ?_);rintro e Zn ⟨rfl,af7⟩;have Zx:=ah (WW.out.below af7);clear af7;have hx1:=aG Zx.out.row 2;have hx2:=aS Zx.out.row 2)
     have abf:Hid (Le w H fZ tb rb cap B m N ge (ru ⟨K,nm,lk,md,u1,g1,us,gr,t.1,t.2,[]⟩ none 0 0) (Zn.setCell ⟨ge,2,none⟩ (.string ⟨lk.toArray⟩))):=ah (Zx.out.set 2 (.string ⟨lk.toArray⟩));generalize Zn.setCell ⟨ge,2,none⟩ (.string ⟨lk.toArray⟩)=w24 at *
     obtain⟨hf7,hfr⟩:=ahm.out w24 abf.out;have HFR:=ah hfr;have qh:=ah (vD ⟨K,nm,lk,md,u1,g1,us,gr,t.1,t.2,[]⟩ none 0 0);have AP:=ah (lq ⟨K,nm,lk,md,u1,g1,us,gr,t.1,t.2,[]⟩ none 0 0);clear hfr hx1 hx2 Zx;go_wp2_with (first|(refine cK rfl 42 _ rfl ge 0 rfl (ru ⟨K,nm,lk,md,u1,g1,us,gr,t.1,t.2,[]⟩ none 0 0) _ HFR.out underlying42 rfl (by rw[U5];exact qh.out) ?_)|(refine wpList_store_row rfl 42 _ _ rfl (w.heap.size+1) rfl (ru ⟨K,nm,lk,md,u1,g1,us,gr,t.1,t.2,[]⟩ none 0 0) rfl fZ 42 abf.out.lt.ap.rr rfl qh.out AP.out ?_))
     exact bodyPost_ret (bS rfl _ _ (w.heap.size+1) 42 (ru ⟨K,nm,lk,md,u1,g1,us,gr,t.1,t.2,[]⟩ none 0 0) (0,0) _ _ _ rfl rfl rfl (setRow_heap _ _ _ _ _ _ abf.out.lt.ap.rr) underlying42 rfl qh.out) rfl ⟨by rw[HE.out];rfl,Below.setRow abf.out.lt.ap.bJ (by omega) _⟩
   .have hty:¬ (h.ty=49\/h.ty=50):=fun e=>hl (hlk.2 e)
    have hk4:(K==4)=false:=by rw[beq_eq_false_iff_ne];exact fun e=>hl (.inl e)
    have hk3:(K==3)=false:=by rw[beq_eq_false_iff_ne];exact fun e=>hl (.inr e)
    have HFR:=ah (tV WW.out.row);have qh:=ah (vD ⟨K,nm,[],md,u1,g1,us,gr,t.1,t.2,[]⟩ none 0 0);have AP:=ah (lq ⟨K,nm,[],md,u1,g1,us,gr,t.1,t.2,[]⟩ none 0 0);have hrr:=HRR.out;rw[if_neg hty] at hrr;clear hlk h48 hty hl HRR;rcases hk0 with h0|h0
    .rw[if_pos h0] at hrr;subst hrr;have hbt:(((h.ty.toNat:Nat):Int) != 48)=false:=by rw[GK];simp[h0]
     clear h0 GK;go_wp2_with (first|(refine cK rfl 42 _ rfl ge 0 rfl (ru ⟨K,nm,[],md,u1,g1,us,gr,t.1,t.2,[]⟩ none 0 0) _ HFR.out underlying42 rfl (by rw[U5];exact qh.out) ?_)|(refine wpList_store_row rfl 42 _ _ rfl (w.heap.size+1) rfl (ru ⟨K,nm,[],md,u1,g1,us,gr,t.1,t.2,[]⟩ none 0 0) rfl fZ 42 WW.out.lt.ap.rr rfl qh.out AP.out ?_))
     exact bodyPost_ret (bS rfl _ _ (w.heap.size+1) 42 (ru ⟨K,nm,[],md,u1,g1,us,gr,t.1,t.2,[]⟩ none 0 0) (0,0) _ _ _ rfl rfl rfl (setRow_heap _ _ _ _ _ _ WW.out.lt.ap.rr) underlying42 rfl qh.out) rfl ⟨by rw[HE.out];rfl,Below.setRow WW.out.lt.ap.bJ (by omega) _⟩
    .rw[if_neg h0] at hrr;subst hrr;have hbt:(((h.ty.toNat:Nat):Int) != 48)=true:=by rw[GK];simp[h0]
     clear h0 GK;go_wp2_with (first|(refine cK rfl 42 _ rfl ge 0 rfl (ru ⟨K,nm,[],md,u1,g1,us,gr,t.1,t.2,[]⟩ none 0 0) _ HFR.out underlying42 rfl (by rw[U5];exact qh.out) ?_)|(refine wpList_store_row rfl 42 _ _ rfl (w.heap.size+1) rfl (ru ⟨K,nm,[],md,u1,g1,us,gr,t.1,t.2,[]⟩ none 0 0) rfl fZ 42 WW.out.lt.ap.rr rfl qh.out AP.out ?_))
     exact bodyPost_ret (bS rfl _ _ (w.heap.size+1) 42 (ru ⟨K,nm,[],md,u1,g1,us,gr,t.1,t.2,[]⟩ none 0 0) (0,0) _ _ _ rfl rfl rfl (setRow_heap _ _ _ _ _ _ WW.out.lt.ap.rr) underlying42 rfl qh.out) rfl ⟨by rw[HE.out];rfl,Below.setRow WW.out.lt.ap.bJ (by omega) _⟩
 .have hrr:=HR.out;rw[if_neg hok] at hrr;subst hrr;clear HR;have hcs:s2=false\/(s2=true/\u2=false)\/(s2=true/\u2=true/\g2=false):=by
   cases s2 <;> cases u2 <;> cases g2 <;> simp at hok ⊢
  clear hok;rcases hcs with rfl|⟨rfl,rfl⟩|⟨rfl,rfl,rfl⟩
  all_goals
   go_upto_region 14 with fail
   go_wp2_with (with_reducible refine wpList_store_row rfl 42 _ _ rfl (w.heap.size+1) rfl fZ rfl fZ 42 Cg.out.ap.rr rfl hZ.out hZO.out ?_)
   exact bodyPost_ret (bS rfl _ _ (w.heap.size+1) 42 fZ (0,0) _ _ _ rfl rfl rfl (setRow_heap _ _ _ _ _ _ Cg.out.ap.rr) underlying42 rfl hZ.out) rfl ⟨by rw[HE.out];rfl,Below.setRow Cg.out.ap.bJ (by omega) _⟩
theorem TJ(h:Hd)(ag al:Option Addr)(ng cg nl cl:Nat)(g l:List Pr)(ln lr:List UInt8)(w:World)(ev:Value)(hg:uD w ag ng cg g)(hl:uD w al nl cl l)(hgl:PrL g)(hll:PrL l)(hng:ng<=4194304)(hnl:nl<=4194304)(hhn:h.name.length<=140737488351232)(hln:ln.length<=140737488351232)(hm:uF w)(he:eO w ev):Calls qp0 152 #[.agg (dQ h),.slice ag ng cg,.slice al nl cl,.string ⟨ln.toArray⟩,.string ⟨lr.toArray⟩] w fun e w'=>e=.returned (apV (Plain.gG h g l ln lr))/\Below w.heap.size w w':=by
 have hlt:(h.ty<48\/54<h.ty)↔(h.ty.toNat<48\/54<h.ty.toNat):=by
  rw[qbT,qbT];exact Iff.rfl
 by_cases ht:h.ty.toNat<48\/54<h.ty.toNat
 .have e:Plain.gG h g l ln lr=(En.none,0,73):=by unfold Plain.gG;rw[if_pos (hlt.2 ht)]
  rw[e];exact Pe h ag al ng cg nl cl ln lr w ht
 .by_cases hs:(Plain.sparse g||Plain.sparse l)=true
  .have e:Plain.gG h g l ln lr=(En.none,0,61):=by unfold Plain.gG;rw[if_neg (fun c=>ht (hlt.1 c)),if_pos hs]
   rw[e];exact Il h ag al ng cg nl cl g l ln lr w hg hl (by omega) (by omega) hs
  .simp only[Yb,not_or,qcg] at hs;exact Oj h ag al ng cg nl cl g l ln lr w ev hg hl (by omega) (by omega) hs.1 hs.2 hgl hll hng hnl hhn hln hm he
end Ov
end
theorem mh:∀ (l:List UInt8)(c:UInt8),Lib.indexByte l c=if (l.takeWhile (· != c)).length<l.length then(((l.takeWhile (· != c)).length:Nat):Int) else -1
 | [],c=>by simp[Lib.indexByte]
 | b::l,c=>by
  have ih:=mh l c;unfold Lib.indexByte;by_cases h:b=c
  .subst h;rw[if_pos (by simp),List.takeWhile_cons_of_neg (by simp)];simp
  .rw[if_neg (by simpa using h),List.takeWhile_cons_of_pos (by simpa using h),ih];by_cases h2:(l.takeWhile (· != c)).length<l.length
   .rw[if_pos h2,if_neg (by simp),if_pos (by simp;omega)];simp
   .rw[if_neg h2,if_pos (by simp),if_neg (by simp;omega)]
theorem CU(a:Option Addr)(n c:Nat)(l:List UInt8)(cv:UInt8)(w:World)(h:Bs w a n c l):Calls qp0 183 #[.slice a n c,.int .u8 (cv.toNat:Int)] w fun e w'=>e=.returned (.int .i64 (Lib.indexByte l cv))/\w=w':=by
 have hcv:((cv.toNat:Int).toNat).toUInt8=cv:=by simp
 cases a with
 | none =>
  obtain⟨rfl,rfl⟩:=h.2.2.2.2 rfl;have:l=[]:=O8 h.len;subst this;exact(Tryz.bytes_IndexByte_nil (cv.toNat:Int) w).mono fun e w' ⟨he,hw⟩=>⟨he,hw.symm⟩
 | some x =>
  have hb:Lib.bytesOf (l.map fun b=>(b.toNat:Int))=l:=by simp[Lib.bytesOf,Function.comp_def]
  refine(Tryz.bytes_IndexByte_at x n c (l.map fun b=>(b.toNat:Int)) (cv.toNat:Int) w (by simpa using h.len) (fun i hi=>?_)).mono fun e w' ⟨he,hw⟩=>⟨by rw[hb,hcv] at he;exact he,hw.symm⟩
  have hl:=h.len;have hil:i<l.length:=by omega
  obtain⟨y,hy,hc⟩:=h.2.2.2.1 i (jJ l[i]) (by simp[kM hil])
  cases hy
  rw[hc];simp[List.getD,kM hil,jJ]
theorem FP(a:Option Addr)(n c:Nat)(l:List UInt8)(b2:Nat)(c2:Nat)(cv:UInt8)(w:World)(h:Bs w a n c l)(hs:w.cell? ⟨b2,0,none⟩=some (.int .u8 (cv.toNat:Int))):Calls qp0 254 #[.slice a n c,.slice (some ⟨b2,0,none⟩) 1 c2] w fun e w'=>e=.returned (.int .i64 (Lib.indexByte l cv))/\w=w':=by
 have H:=ah (CU a n c l cv w h);have hcap:=h.cap;have hmax:=h.max;generalize Lib.indexByte l cv=i at *
 generalize (cv.toNat:Int)=v at *
 clear h;go_enter func254,ntmps254;go_wp2_with (go_at_call 183;(with_reducible refine(H.out).mono ?_);rintro e w1 ⟨rfl,hw⟩;obtain rfl:=hw)
 go_ret;exact⟨rfl,rfl⟩
def iG(w:World)(a:Option Addr)(n c:Nat)(l:List UInt8)(cv:UInt8)(e:Ending)(w':World):Prop :=Below w.heap.size w w'/\if (l.takeWhile (· != cv)).length<n then ∃ a1 a2,e=.returned (.tuple #[.slice a1 (l.takeWhile (· != cv)).length c,.slice a2 (n-((l.takeWhile (· != cv)).length+1)) (c-((l.takeWhile (· != cv)).length+1)),.bool true])/\Bs w' a1 (l.takeWhile (· != cv)).length c (l.takeWhile (· != cv))
  else ∃ v1 v2,e=.returned (.tuple #[v1,v2,.bool false])
theorem Cv(l:List UInt8)(p:UInt8->Bool):l.takeWhile p=l.take (l.takeWhile p).length:=List.prefix_iff_eq_take.1 (List.takeWhile_prefix _)
theorem Mr{w w':World}{a:Option Addr}{n c i:Nat}{l:List UInt8}{cv:UInt8}(hi:(l.takeWhile (· != cv)).length=i)(hf:i<n)(a1 a2:Option Addr)(m k:Nat)(hm:m=n-(i+1))(hk:k=c-(i+1))(hb:Below w.heap.size w w')(h:Bs w' a1 i c (l.take i)):iG w a n c l cv (.returned (.tuple #[.slice a1 i c,.slice a2 m k,.bool true])) w':=by
 subst hm;subst hk;have ht:=Cv l (· != cv);rw[hi] at ht;unfold iG;rw[hi,if_pos hf,ht];exact⟨hb,a1,a2,rfl,h⟩
theorem aa7{w w':World}{a:Option Addr}{n c i:Nat}{l:List UInt8}{cv:UInt8}(hi:(l.takeWhile (· != cv)).length=i)(hf:¬ i<n)(v1 v2:Value)(hb:Below w.heap.size w w'):iG w a n c l cv (.returned (.tuple #[v1,v2,.bool false])) w':=by
 unfold iG;rw[hi,if_neg hf];exact⟨hb,v1,v2,rfl⟩
theorem rW(a:Option Addr)(n c:Nat)(l:List UInt8)(b2:Nat)(c2:Nat)(cv:UInt8)(w:World)(h:Bs w a n c l)(hs:w.cell? ⟨b2,0,none⟩=some (.int .u8 (cv.toNat:Int))):Calls qp0 243 #[.slice a n c,.slice (some ⟨b2,0,none⟩) 1 c2] w (iG w a n c l cv):=by
 have H:=FP a n c l b2 c2 cv w h hs;have hcap:=h.cap;have hmax:=h.max;have hl:=h.len;rw[mh,hl] at H;obtain⟨i,hi⟩:∃ i,(l.takeWhile (· != cv)).length=i:=⟨_,rfl⟩
 rw[hi] at H;have HI:=ah hi;by_cases hf:i<n
 .rw[if_pos hf] at H;have HH:=ah H;have hif:(0:Int)<=(i:Int):=by omega
  obtain⟨b,off,rfl,_⟩:=h.at 0 (by omega);have hb1:=Qk h i (by omega);have i1:(i:Int)<=c:=by omega
  have i2:(i:Int)+1<=n:=by omega
  have i3:(n:Int)<=c:=by omega
  have i4:(i:Int)+1<=c:=by omega
  have n1:i+1<=n:=by omega
  have n2:i<=c:=by omega
  have n3:i+1<=c:=by omega
  clear H hi hs hl;by_cases hci:c=i+1
  .subst hci;have HB1:=ah hb1;clear hb1;go_enter func243,ntmps243;go_wp2_with (go_at_call 254;(with_reducible refine(HH.out).mono ?_);rintro e w1 ⟨rfl,hw⟩;obtain rfl:=hw)
   go_quiet (fail)
   go_wp2
   go_ret3;exact Mr HI.out hf _ _ _ _ (by omega) (by omega) (Below.drewN (Below.refl _ _) _) ((Keeps.drewN _ _).bs HB1.out)
  .have HB1:=ah hb1;clear hb1;go_enter func243,ntmps243;go_wp2_with (go_at_call 254;(with_reducible refine(HH.out).mono ?_);rintro e w1 ⟨rfl,hw⟩;obtain rfl:=hw)
   go_quiet (fail)
   go_wp2
   go_ret3;exact Mr HI.out hf _ _ _ _ (by omega) (by omega) (Below.drewN (Below.refl _ _) _) ((Keeps.drewN _ _).bs HB1.out)
 .rw[if_neg hf] at H;have HH:=ah H;clear H hi hs hl;go_enter func243,ntmps243;go_wp2_with (go_at_call 254;(with_reducible refine(HH.out).mono ?_);rintro e w1 ⟨rfl,hw⟩;obtain rfl:=hw)
  go_ret3;exact aa7 HI.out hf _ _ (Below.refl _ _)
theorem O1(t:List UInt8)(c:UInt8):Lib.hasSuffix t [c]=decide (t.getLast? = some c)/\(Lib.hasSuffix t [c]=true->Lib.trimSuffix t [c]=t.dropLast):=by
 have h1:Lib.hasSuffix t [c]=decide (t.getLast? = some c):=by
  unfold Lib.hasSuffix;rw[qbG];simp only[decide_eq_true_eq];constructor
  .intro h;have:=h;simp[List.isSuffixOf_iff_suffix] at this;obtain⟨s,rfl⟩:=this;simp
  .intro h;obtain⟨s,rfl⟩:=List.getLast?_eq_some_iff.1 h;simp[List.isSuffixOf_iff_suffix]
 refine⟨h1,fun h=>?_⟩;unfold Lib.trimSuffix;rw[if_pos h,List.dropLast_eq_take];rfl
def cutV(l:List UInt8)(cv:UInt8):Value:=if (l.takeWhile (· != cv)).length<l.length then .tuple #[.string ⟨(l.takeWhile (· != cv)).toArray⟩,.string ⟨(l.drop ((l.takeWhile (· != cv)).length+1)).toArray⟩,.bool true] else .tuple #[.string ⟨l.toArray⟩,.string ⟨#[]⟩,.bool false]
theorem XQ(l:List UInt8)(cv:UInt8)(w:World)(hm:l.length<=140737488355328):Calls qp0 247 #[.string ⟨l.toArray⟩,.string ⟨#[cv]⟩] w fun e w'=>e=.returned (cutV l cv)/\Below w.heap.size w w':=by
 have H0:=Tryz.stringslite_Index_one ⟨l.toArray⟩ cv w;have e0:(⟨l.toArray⟩:ByteArray).data.toList=l:=rfl;rw[e0,mh] at H0;have htk:=Cv l (· != cv);unfold cutV;generalize hi:(l.takeWhile (· != cv)).length=i at *
 by_cases hf:i<l.length
 .rw[if_pos hf] at H0 ⊢;have HH:=ah H0;have e1:((⟨l.toArray⟩:ByteArray).extract 0 i)=⟨(l.take i).toArray⟩:=by rw[ByteArray.extract_mk];simp
  have e2:((⟨l.toArray⟩:ByteArray).extract (i+1) l.length)=⟨(l.drop (i+1)).toArray⟩:=by
   rw[ByteArray.extract_mk];simp;rw[MU (by simp)]
  rw[htk];have hif:(i:Int)<(l.length:Int):=by omega
  clear H0 htk hi e0;have ahS:(i:Int)+1<=(l.length:Int):=by omega
  have ah1:i+1<=l.length:=by omega
  go_enter func247,ntmps247;go_wp2_with (go_at_call 198;(with_reducible refine(HH.out).mono ?_);rintro e w1 ⟨rfl,hw⟩;obtain rfl:=hw.symm)
  go_quiet (fail)
  go_wp2
  go_ret3;exact⟨rfl,Below.drewN (Below.refl _ _) _⟩
 .rw[if_neg hf] at H0 ⊢;have HH:=ah H0;clear H0 htk hi e0;go_enter func247,ntmps247;go_wp2_with (go_at_call 198;(with_reducible refine(HH.out).mono ?_);rintro e w1 ⟨rfl,hw⟩;obtain rfl:=hw.symm)
  go_ret3;exact⟨rfl,Below.refl _ _⟩
theorem XU(l:List UInt8)(cv:UInt8)(w:World)(hm:l.length<=140737488355328):Calls qp0 221 #[.string ⟨l.toArray⟩,.string ⟨#[cv]⟩] w fun e w'=>e=.returned (cutV l cv)/\Below w.heap.size w w':=by
 have H:=XQ l cv w hm;unfold cutV at *
 by_cases hf:(l.takeWhile (· != cv)).length<l.length
 .rw[if_pos hf] at H ⊢;have HH:=ah H;clear H hf;go_enter func221,ntmps221;go_wp2_with (go_at_call 247;(with_reducible refine(HH.out).mono ?_);rintro e w1 ⟨rfl,hw⟩)
  go_ret3;exact⟨rfl,hw⟩
 .rw[if_neg hf] at H ⊢;have HH:=ah H;clear H hf;go_enter func221,ntmps221;go_wp2_with (go_at_call 247;(with_reducible refine(HH.out).mono ?_);rintro e w1 ⟨rfl,hw⟩)
  go_ret3;exact⟨rfl,hw⟩
def og(w:World):World:=(w.alloc (.cells #[.string ⟨#[]⟩,.string ⟨#[]⟩] 160)).alloc (.cells #[.int .u8 32] 5 (1,2))
theorem jC(w:World):Below w.heap.size w (og w):=((Below.refl _ _).alloc (aY _) _).alloc (by simp) _
theorem lF(w:World):(og w).cell? ⟨w.heap.size+1,0,none⟩=some (.int .u8 ((32:UInt8).toNat:Int)):=by
 have e:(w.alloc (.cells #[.string ⟨#[]⟩,.string ⟨#[]⟩] 160)).heap.size=w.heap.size+1:=by simp
 rw[og,<-e,World.cell?_alloc_mark];rfl
theorem OQ(w:World):(og w).heap.size=w.heap.size+2:=by unfold og;simp
theorem SK(w:World):(og w).heap[w.heap.size]? = some (.cells #[.string ⟨#[]⟩,.string ⟨#[]⟩] 160 (0,0)):=heap_alloc2_old _ _ _
structure ku(w wr:World):Prop where
 bJ:Below w.heap.size w wr
 lt:w.heap.size+1<wr.heap.size
 c0:wr.cell? ⟨w.heap.size,0,none⟩=some (.string ⟨#[]⟩)
 c1:wr.cell? ⟨w.heap.size,1,none⟩=some (.string ⟨#[]⟩)
 f0:wr.frozen? ⟨w.heap.size,0,none⟩=false
 f1:wr.frozen? ⟨w.heap.size,1,none⟩=false
theorem ku.of{w wr:World}(h:Below (og w).heap.size (og w) wr):ku w wr:=by
 have hs:=OQ w;have hz:=h.size;have hr:wr.heap[w.heap.size]? = some (.cells #[.string ⟨#[]⟩,.string ⟨#[]⟩] 160 (0,0)):=by
  rw[h.block _ (by omega)];exact SK w
 exact⟨Below.seq (jC w) h,by omega,by rw[cell_of_row _ _ _ _ _ _ hr];rfl,by rw[cell_of_row _ _ _ _ _ _ hr];rfl,frozen_of_row _ _ _ _ _ hr,frozen_of_row _ _ _ _ _ hr⟩
theorem ku.keep{w wr w':World}(h:ku w wr)(k:Below wr.heap.size wr w'):ku w w':=by
 have hl:=h.lt;have hz:=k.size;refine⟨Below.seq h.bJ k,by omega,Below.keeps k _ _ h.c0,Below.keeps k _ _ h.c1,?_,?_⟩
 .rw[k.frozen (p:=⟨w.heap.size,0,none⟩) (by simp only;omega)];exact h.f0
 .rw[k.frozen (p:=⟨w.heap.size,1,none⟩) (by simp only;omega)];exact h.f1
theorem nD(w:World):(convert 22 22 (.slice (some ⟨w.heap.size+1,0,none⟩) 1 1)).run qp0 ((w.alloc (.cells #[.string ⟨#[]⟩,.string ⟨#[]⟩] 160)).alloc (.cells #[.int .u8 32] 5))=.ok (.slice (some ⟨w.heap.size+1,0,none⟩) 1 1) (og w):=by
 have e:(w.alloc (.cells #[.string ⟨#[]⟩,.string ⟨#[]⟩] 160)).heap.size=w.heap.size+1:=by simp
 have:=Lib.run_convert_bytes_const (P:=qp0) (w.alloc (.cells #[.string ⟨#[]⟩,.string ⟨#[]⟩] 160)) 22 5 #[.int .u8 32] 1 1 underlying22 underlying5;rw[e] at this;exact this
theorem Kg(l:List UInt8)(h:¬ (bn l).length<l.length):Plain.one l=none:=by
 unfold Plain.one;rw[if_neg (fun hc=>h hc.1)]
theorem JA(a:Option Addr)(n c:Nat)(l:List UInt8)(w:World)(h:Bs w a n c l)(hf:¬ (l.takeWhile (· != 32)).length<n):Calls qp0 216 #[.slice a n c] w fun e w'=>e=.returned (.tuple #[.agg #[.string ⟨#[]⟩,.string ⟨#[]⟩],.slice none 0 0,.bool false])/\Below w.heap.size w w':=by
 have kc:=nD w;have HB:=ah (rW a n c l (w.heap.size+1) 1 32 (og w) (Below.bs (jC w) h) (lF w));clear h;go_enter func216,ntmps216;go_wp2_with (go_at_call 243;(refine(HB.out).mono ?_);rintro e w3 hres;unfold iG at hres;rw[if_neg hf] at hres;obtain⟨hb3,v1,v2,rfl⟩:=hres;have hN:=ku.of hb3;have hc0:=hN.c0;have hc1:=hN.c1;have hf0:=hN.f0;have hf1:=hN.f1;have hbel:=hN.bJ;have hlt:=hN.lt;clear hb3)
 refine bodyPost_ret (v:=.tuple #[.agg #[.string ⟨#[]⟩,.string ⟨#[]⟩],.slice none 0 0,.bool false]) (by simp[results,results216,go_sem,hc0,hc1]) rfl ⟨rfl,?_⟩
 first|exact hbel|exact hbel.setCell (by simp) _|exact(hbel.setCell (by simp) _).setCell (by simp) _
theorem Rn(a:Option Addr)(n c:Nat)(l:List UInt8)(w:World)(h:Bs w a n c l)(hf:(l.takeWhile (· != 32)).length<n)(h9:9<(l.takeWhile (· != 32)).length):Calls qp0 216 #[.slice a n c] w fun e w'=>e=.returned (.tuple #[.agg #[.string ⟨#[]⟩,.string ⟨#[]⟩],.slice none 0 0,.bool false])/\Below w.heap.size w w':=by
 have kc:=nD w;have HB:=ah (rW a n c l (w.heap.size+1) 1 32 (og w) (Below.bs (jC w) h) (lF w));have h9i:(9:Int)<((l.takeWhile (· != 32)).length:Int):=by omega
 clear h;go_enter func216,ntmps216;go_wp2_with (go_at_call 243;(refine(HB.out).mono ?_);rintro e w3 hres;unfold iG at hres;rw[if_pos hf] at hres;obtain⟨hb3,a1,a2,rfl,hs3⟩:=hres;have hN:=ku.of hb3;have hc0:=hN.c0;have hc1:=hN.c1;have hf0:=hN.f0;have hf1:=hN.f1;have hbel:=hN.bJ;have hlt:=hN.lt;clear hb3 hs3)
 refine bodyPost_ret (v:=.tuple #[.agg #[.string ⟨#[]⟩,.string ⟨#[]⟩],.slice none 0 0,.bool false]) (by simp[results,results216,go_sem,hc0,hc1]) rfl ⟨rfl,?_⟩
 first|exact hbel|exact hbel.setCell (by simp) _|exact(hbel.setCell (by simp) _).setCell (by simp) _
theorem XA(a:Option Addr)(n c:Nat)(l:List UInt8)(w:World)(ev:Value)(h:Bs w a n c l)(hn:n<=140737488351232)(hE:eO w ev)(hf:(l.takeWhile (· != 32)).length<n)(h9:(l.takeWhile (· != 32)).length<=9)(hbad:(Plain.decimal (l.takeWhile (· != 32))).2≠0\/((Plain.decimal (l.takeWhile (· != 32))).2=0/\((Plain.decimal (l.takeWhile (· != 32))).1<=((l.takeWhile (· != 32)).length:Int)+1\/(¬ (Plain.decimal (l.takeWhile (· != 32))).1<=((l.takeWhile (· != 32)).length:Int)+1/\(n:Int)<(Plain.decimal (l.takeWhile (· != 32))).1)))):Calls qp0 216 #[.slice a n c] w fun e w'=>e=.returned (.tuple #[.agg #[.string ⟨#[]⟩,.string ⟨#[]⟩],.slice none 0 0,.bool false])/\Below w.heap.size w w':=by
 have kc:=nD w;have HB:=ah (rW a n c l (w.heap.size+1) 1 32 (og w) (Below.bs (jC w) h) (lF w));have HD:=ah (fun w hE=>lM (l.takeWhile (· != 32)) w ev (by omega) hE);generalize hd:Plain.decimal (l.takeWhile (· != 32))=d at *
 obtain⟨x,k⟩:=d;have HE:=ah hE;have h9i:¬ (9:Int)<((l.takeWhile (· != 32)).length:Int):=by omega
 simp only at hbad;clear h hd hE;rcases hbad with hk|⟨hk,hx|⟨hx,hy⟩⟩
 .have hk2:(k != 0)=true:=by rw[bne_iff_ne];exact hk
  clear hk;go_enter func216,ntmps216;go_wp2_with (first|(go_at_call 243;(refine(HB.out).mono ?_);rintro e w3 hres;unfold iG at hres;rw[if_pos hf] at hres;obtain⟨hb3,a1,a2,rfl,hs3⟩:=hres;have hN:=ku.of hb3;have HN:=ah hN;have KY:=ah hs3;clear hb3 hs3 hN)|(with_reducible refine aT rfl _ _ _ rfl underlying22 underlying5 underlying9 rfl KY.out ?_)|(go_at_call 219;(refine(HD.out _ (by exact HE.out.below HN.out.bJ)).mono ?_);rintro e w4 ⟨rfl,hb4⟩;unfold nU;have hN:=HN.out.keep hb4;have hc0:=hN.c0;have hc1:=hN.c1;have hf0:=hN.f0;have hf1:=hN.f1;have hbel:=hN.bJ;have hlt:=hN.lt;clear hb4))
  refine bodyPost_ret (v:=.tuple #[.agg #[.string ⟨#[]⟩,.string ⟨#[]⟩],.slice none 0 0,.bool false]) (by simp[results,results216,go_sem,hc0,hc1]) rfl ⟨rfl,?_⟩
  first|exact hbel|exact hbel.setCell (by simp) _|exact(hbel.setCell (by simp) _).setCell (by simp) _
 .subst hk;go_enter func216,ntmps216;go_wp2_with (first|(go_at_call 243;(refine(HB.out).mono ?_);rintro e w3 hres;unfold iG at hres;rw[if_pos hf] at hres;obtain⟨hb3,a1,a2,rfl,hs3⟩:=hres;have hN:=ku.of hb3;have HN:=ah hN;have KY:=ah hs3;clear hb3 hs3 hN)|(with_reducible refine aT rfl _ _ _ rfl underlying22 underlying5 underlying9 rfl KY.out ?_)|(go_at_call 219;(refine(HD.out _ (by exact HE.out.below HN.out.bJ)).mono ?_);rintro e w4 ⟨rfl,hb4⟩;unfold nU;have hN:=HN.out.keep hb4;have hc0:=hN.c0;have hc1:=hN.c1;have hf0:=hN.f0;have hf1:=hN.f1;have hbel:=hN.bJ;have hlt:=hN.lt;clear hb4))
  refine bodyPost_ret (v:=.tuple #[.agg #[.string ⟨#[]⟩,.string ⟨#[]⟩],.slice none 0 0,.bool false]) (by simp[results,results216,go_sem,hc0,hc1]) rfl ⟨rfl,?_⟩
  first|exact hbel|exact hbel.setCell (by simp) _|exact(hbel.setCell (by simp) _).setCell (by simp) _
 .subst hk;go_enter func216,ntmps216;go_wp2_with (first|(go_at_call 243;(refine(HB.out).mono ?_);rintro e w3 hres;unfold iG at hres;rw[if_pos hf] at hres;obtain⟨hb3,a1,a2,rfl,hs3⟩:=hres;have hN:=ku.of hb3;have HN:=ah hN;have KY:=ah hs3;clear hb3 hs3 hN)|(with_reducible refine aT rfl _ _ _ rfl underlying22 underlying5 underlying9 rfl KY.out ?_)|(go_at_call 219;(refine(HD.out _ (by exact HE.out.below HN.out.bJ)).mono ?_);rintro e w4 ⟨rfl,hb4⟩;unfold nU;have hN:=HN.out.keep hb4;have hc0:=hN.c0;have hc1:=hN.c1;have hf0:=hN.f0;have hf1:=hN.f1;have hbel:=hN.bJ;have hlt:=hN.lt;clear hb4))
  refine bodyPost_ret (v:=.tuple #[.agg #[.string ⟨#[]⟩,.string ⟨#[]⟩],.slice none 0 0,.bool false]) (by simp[results,results216,go_sem,hc0,hc1]) rfl ⟨rfl,?_⟩
  first|exact hbel|exact hbel.setCell (by simp) _|exact(hbel.setCell (by simp) _).setCell (by simp) _
theorem oC(a:Option Addr)(n c:Nat)(l:List UInt8)(w:World)(ev:Value)(i X:Nat)(t u:List UInt8)(en fo:Bool)(k v:List UInt8)(h:Bs w a n c l)(hn:n<=140737488351232)(hE:eO w ev)(hi:(l.takeWhile (· != 32)).length=i)(hf:i<n)(h9:i<=9)(hd:Plain.decimal (l.takeWhile (· != 32))=((X:Int),0))(h1:i+1<X)(h2:X<=n)(ht:(l.take X).drop (i+1)=t)(hcs:∀ w,Calls qp0 244 #[.string ⟨t.toArray⟩,.string ⟨#[10]⟩] w fun e w'=>e=.returned (.tuple #[.string ⟨u.toArray⟩,.bool en])/\w=w')(hsc:∀ w,Calls qp0 221 #[.string ⟨u.toArray⟩,.string ⟨#[61]⟩] w fun e w'=>e=.returned (.tuple #[.string ⟨k.toArray⟩,.string ⟨v.toArray⟩,.bool fo])/\Below w.heap.size w w')(hno:en=false\/(en=true/\fo=false)\/(en=true/\fo=true/\k=[])):Calls qp0 216 #[.slice a n c] w fun e w'=>e=.returned (.tuple #[.agg #[.string ⟨#[]⟩,.string ⟨#[]⟩],.slice none 0 0,.bool false])/\Below w.heap.size w w':=by
 have kc:=nD w;have HB:=ah (rW a n c l (w.heap.size+1) 1 32 (og w) (Below.bs (jC w) h) (lF w));have HD:=ah (fun w hE=>lM (l.takeWhile (· != 32)) w ev (by omega) hE);rw[hd] at HD;have hcap:=h.cap;have hmax:=h.max;have hl:=h.len;have htl:t.length<=140737488351232:=by rw[<-ht,zW,zQ];omega
 have HE:=ah hE;have HH:=ah h;have HT:=ah ht;have HCS:=ah hcs;have HSC:=ah hsc;have HI:=ah hi;have h9i:¬ (9:Int)<(i:Int):=by omega
 have x1:¬ (X:Int)<=(i:Int)+1:=by omega
 have x2:¬ (n:Int)<(X:Int):=by omega
 clear h hd hE ht hcs hsc hi hl;rcases hno with rfl|⟨rfl,rfl⟩|⟨rfl,rfl,rfl⟩
 all_goals
  go_enter func216,ntmps216;go_wp2_with (first|(go_at_call 243;(refine(HB.out).mono ?_);rintro e w3 hres;unfold iG at hres;rw[HI.out,if_pos hf] at hres;obtain⟨hb3,a1,a2,rfl,hs3⟩:=hres;have hN:=ku.of hb3;have HN:=ah hN;have KY:=ah hs3;clear hb3 hs3 hN)|(with_reducible refine aT rfl _ _ _ rfl underlying22 underlying5 underlying9 rfl KY.out ?_)|(go_at_call 219;(refine(HD.out _ (by exact HE.out.below HN.out.bJ)).mono ?_);rintro e w4 ⟨rfl,hb4⟩;unfold nU;have Zl:=ah (HN.out.keep hb4);have HA:=ah (Below.bs Zl.out.bJ HH.out);clear hb4)|((refine gI rfl _ _ _ _ rfl underlying22 (by kernel_rfl) rfl HA.out (i+1) X .i64 .i64 rfl rfl (by omega) (by omega) ?_);intro a5 hb5;rw[HT.out] at hb5;have HS5:=ah hb5;clear hb5)|(with_reducible refine aT rfl _ _ _ rfl underlying22 underlying5 underlying9 rfl HS5.out ?_)|(go_at_call 244;(with_reducible refine(HCS.out _).mono ?_);rintro e w6 ⟨rfl,hw6⟩;obtain rfl:=hw6)|(go_at_call 221;(with_reducible refine(HSC.out _).mono ?_);rintro e w7 ⟨rfl,mq⟩;have hN:=Zl.out.keep mq;have hc0:=hN.c0;have hc1:=hN.c1;have hf0:=hN.f0;have hf1:=hN.f1;have hbel:=hN.bJ;have hlt:=hN.lt;clear mq))
  refine bodyPost_ret (v:=.tuple #[.agg #[.string ⟨#[]⟩,.string ⟨#[]⟩],.slice none 0 0,.bool false]) (by simp[results,results216,go_sem,hc0,hc1]) rfl ⟨rfl,?_⟩
  first|exact hbel|exact hbel.setCell (by simp) _|exact(hbel.setCell (by simp) _).setCell (by simp) _
def Io(w:World)(a:Option Addr)(n c X:Nat)(l k v:List UInt8)(e:Ending)(w':World):Prop :=∃ a',e=.returned (.tuple #[.agg #[.string ⟨k.toArray⟩,.string ⟨v.toArray⟩],.slice a' (n-X) (c-X),.bool true])/\(∀ w0,Bs w0 a n c l->Bs w0 a' (n-X) (c-X) (l.drop X))/\Below w.heap.size w w'
theorem aaY{w w':World}{b off n c X:Nat}{l k v:List UInt8}(h:Bs w (some ⟨b,off,none⟩) n c l)(hX:X<=n)(hne:¬ c=X)(hb:Below w.heap.size w w'):Io w (some ⟨b,off,none⟩) n c X l k v (.returned (.tuple #[.agg #[.string ⟨k.toArray⟩,.string ⟨v.toArray⟩],.slice (some ⟨b,off+X,none⟩) (n-X) (c-X),.bool true])) w':=by
 refine⟨_,rfl,fun w0 h=>?_,hb⟩;have:=H9 h X n hX (aY _);have hl:=h.len;rw[if_neg hne,MU (by omega)] at this;have e:(Option.map (fun x:Addr=>x.add (X*1)) (some ⟨b,off,none⟩))=some ⟨b,off+X,none⟩:=by rw[MK,qbK,Addr.add_lit]
 rw[e] at this;exact this
theorem Xc{w w':World}{b off n X:Nat}{l k v:List UInt8}(h:Bs w (some ⟨b,off,none⟩) n X l)(hX:X<=n)(hb:Below w.heap.size w w'):Io w (some ⟨b,off,none⟩) n X X l k v (.returned (.tuple #[.agg #[.string ⟨k.toArray⟩,.string ⟨v.toArray⟩],.slice (some ⟨b,off,none⟩) (n-X) 0,.bool true])) w':=by
 refine⟨some ⟨b,off,none⟩,?_,fun w0 h=>?_,hb⟩
 .rw[Nat.sub_self]
 .have:=H9 h X n hX (aY _);have hl:=h.len;rw[if_pos rfl,MU (by omega)] at this;exact this
theorem Wp(a:Option Addr)(n c:Nat)(l:List UInt8)(w:World)(ev:Value)(i X:Nat)(t u:List UInt8)(k v:List UInt8)(h:Bs w a n c l)(hn:n<=140737488351232)(hE:eO w ev)(hi:(l.takeWhile (· != 32)).length=i)(hf:i<n)(h9:i<=9)(hd:Plain.decimal (l.takeWhile (· != 32))=((X:Int),0))(h1:i+1<X)(h2:X<=n)(ht:(l.take X).drop (i+1)=t)(hcs:∀ w,Calls qp0 244 #[.string ⟨t.toArray⟩,.string ⟨#[10]⟩] w fun e w'=>e=.returned (.tuple #[.string ⟨u.toArray⟩,.bool true])/\w=w')(hsc:∀ w,Calls qp0 221 #[.string ⟨u.toArray⟩,.string ⟨#[61]⟩] w fun e w'=>e=.returned (.tuple #[.string ⟨k.toArray⟩,.string ⟨v.toArray⟩,.bool true])/\Below w.heap.size w w')(hk:k.isEmpty=false):Calls qp0 216 #[.slice a n c] w (Io w a n c X l k v):=by
 have kc:=nD w;have HB:=ah (rW a n c l (w.heap.size+1) 1 32 (og w) (Below.bs (jC w) h) (lF w));have HD:=ah (fun w hE=>lM (l.takeWhile (· != 32)) w ev (by omega) hE);rw[hd] at HD;have hcap:=h.cap;have hmax:=h.max;have hl:=h.len;have htl:t.length<=140737488351232:=by rw[<-ht,zW,zQ];omega
 have HE:=ah hE;have HH:=ah h;have HT:=ah ht;have HCS:=ah hcs;have HSC:=ah hsc;have HI:=ah hi;have h9i:¬ (9:Int)<(i:Int):=by omega
 have x1:¬ (X:Int)<=(i:Int)+1:=by omega
 have x2:¬ (n:Int)<(X:Int):=by omega
 clear h hd hE ht hcs hsc hi hl;obtain⟨b,off,rfl,_⟩:=HH.out.at 0 (by omega);by_cases hcX:c=X
 .subst hcX;go_enter func216,ntmps216;go_wp2_with (first|(go_at_call 243;(refine(HB.out).mono ?_);rintro e w3 hres;unfold iG at hres;rw[HI.out,if_pos hf] at hres;obtain⟨hb3,a1,a2,rfl,hs3⟩:=hres;have hN:=ku.of hb3;have HN:=ah hN;have KY:=ah hs3;clear hb3 hs3 hN)|(with_reducible refine aT rfl _ _ _ rfl underlying22 underlying5 underlying9 rfl KY.out ?_)|(go_at_call 219;(refine(HD.out _ (by exact HE.out.below HN.out.bJ)).mono ?_);rintro e w4 ⟨rfl,hb4⟩;unfold nU;have Zl:=ah (HN.out.keep hb4);have HA:=ah (Below.bs Zl.out.bJ HH.out);clear hb4)|((refine gI rfl _ _ _ _ rfl underlying22 (by kernel_rfl) rfl HA.out (i+1) c .i64 .i64 rfl rfl (by omega) (by omega) ?_);intro a5 hb5;rw[HT.out] at hb5;have HS5:=ah hb5;clear hb5)|(with_reducible refine aT rfl _ _ _ rfl underlying22 underlying5 underlying9 rfl HS5.out ?_)|(go_at_call 244;(with_reducible refine(HCS.out _).mono ?_);rintro e w6 ⟨rfl,hw6⟩;obtain rfl:=hw6)|(go_at_call 221;(with_reducible refine(HSC.out _).mono ?_);rintro e w7 ⟨rfl,mq⟩;have hN:=Zl.out.keep mq;have hc0:=hN.c0;have hc1:=hN.c1;have hf0:=hN.f0;have hf1:=hN.f1;have hbel:=hN.bJ;have hlt:=hN.lt;clear mq))
  have y1:(c:Int)<=n:=by omega
  have y2:(n:Int)<=c:=by omega
  have y3:(c:Int)<=c:=by omega
  have y4:(0:Int)<=(c:Int):=by omega
  have adv:=ah hbel;clear hbel hN;go_region
  go_wp2
  refine bodyPost_ret (v:=.tuple #[.agg #[.string ⟨k.toArray⟩,.string ⟨v.toArray⟩],.slice (some ⟨b,off,none⟩) (n-c) 0,.bool true]) (by simp[results,results216,go_sem,hc0,hc1] <;> omega) rfl ?_;exact Xc HH.out h2 (Below.seq ((adv.out.setCell (by simp) _).setCell (by simp) _) ((Below.refl _ _).drew))
 .go_enter func216,ntmps216;go_wp2_with (first|(go_at_call 243;(refine(HB.out).mono ?_);rintro e w3 hres;unfold iG at hres;rw[HI.out,if_pos hf] at hres;obtain⟨hb3,a1,a2,rfl,hs3⟩:=hres;have hN:=ku.of hb3;have HN:=ah hN;have KY:=ah hs3;clear hb3 hs3 hN)|(with_reducible refine aT rfl _ _ _ rfl underlying22 underlying5 underlying9 rfl KY.out ?_)|(go_at_call 219;(refine(HD.out _ (by exact HE.out.below HN.out.bJ)).mono ?_);rintro e w4 ⟨rfl,hb4⟩;unfold nU;have Zl:=ah (HN.out.keep hb4);have HA:=ah (Below.bs Zl.out.bJ HH.out);clear hb4)|((refine gI rfl _ _ _ _ rfl underlying22 (by kernel_rfl) rfl HA.out (i+1) X .i64 .i64 rfl rfl (by omega) (by omega) ?_);intro a5 hb5;rw[HT.out] at hb5;have HS5:=ah hb5;clear hb5)|(with_reducible refine aT rfl _ _ _ rfl underlying22 underlying5 underlying9 rfl HS5.out ?_)|(go_at_call 244;(with_reducible refine(HCS.out _).mono ?_);rintro e w6 ⟨rfl,hw6⟩;obtain rfl:=hw6)|(go_at_call 221;(with_reducible refine(HSC.out _).mono ?_);rintro e w7 ⟨rfl,mq⟩;have hN:=Zl.out.keep mq;have hc0:=hN.c0;have hc1:=hN.c1;have hf0:=hN.f0;have hf1:=hN.f1;have hbel:=hN.bJ;have hlt:=hN.lt;clear mq))
  have y1:(X:Int)<=n:=by omega
  have y2:(n:Int)<=c:=by omega
  have y3:(X:Int)<=c:=by omega
  have y4:(0:Int)<=X:=by omega
  have adv:=ah hbel;clear hbel hN;go_region
  go_wp2
  refine bodyPost_ret (v:=.tuple #[.agg #[.string ⟨k.toArray⟩,.string ⟨v.toArray⟩],.slice (some ⟨b,off+X,none⟩) (n-X) (c-X),.bool true]) (by simp[results,results216,go_sem,hc0,hc1]) rfl ?_;exact aaY HH.out h2 hcX (Below.seq ((adv.out.setCell (by simp) _).setCell (by simp) _) ((Below.refl _ _).drew))
def pU(w:World)(a:Option Addr)(n c:Nat)(l:List UInt8)(r:Option ((List UInt8×List UInt8)×Nat))(e:Ending)(w':World):Prop :=Below w.heap.size w w'/\match r with
  | none=>e=.returned (.tuple #[.agg #[.string ⟨#[]⟩,.string ⟨#[]⟩],.slice none 0 0,.bool false])
  | some (p,m)=>∃ a',e=.returned (.tuple #[.agg #[.string ⟨p.1.toArray⟩,.string ⟨p.2.toArray⟩],.slice a' (n-m) (c-m),.bool true])/\∀ w0,Bs w0 a n c l->Bs w0 a' (n-m) (c-m) (l.drop m)
theorem pU.none{w w':World}{a:Option Addr}{n c:Nat}{l:List UInt8}{e:Ending}(h:e=.returned (.tuple #[.agg #[.string ⟨#[]⟩,.string ⟨#[]⟩],.slice Option.none 0 0,.bool false])/\Below w.heap.size w w'):pU w a n c l Option.none e w':=⟨h.2,h.1⟩
theorem pU.some{w w':World}{a:Option Addr}{n c X:Nat}{l k v:List UInt8}{e:Ending}(h:Io w a n c X l k v e w'):pU w a n c l (Option.some ((k,v),X)) e w':=by
 obtain⟨a',h1,h2,h3⟩:=h;exact⟨h3,a',h1,h2⟩
theorem Xe(a:Option Addr)(n c:Nat)(l:List UInt8)(w:World)(ev:Value)(h:Bs w a n c l)(hn:n<=140737488351232)(hE:eO w ev):Calls qp0 216 #[.slice a n c] w (pU w a n c l (Plain.one l)):=by
 have hl:=h.len;by_cases hf:(bn l).length<n
 .by_cases h9:(bn l).length<=9
  .by_cases hgood:(Plain.decimal (bn l)).2=0/\¬ (Plain.decimal (bn l)).1<=((bn l).length:Int)+1/\¬ (n:Int)<(Plain.decimal (bn l)).1
   .obtain⟨g1,g2,g3⟩:=hgood;obtain⟨X,hX⟩:=Xq (show 0<=(Plain.decimal (bn l)).1 by omega);have h1X:(l.takeWhile (· != 32)).length+1<X:=by show(bn l).length+1<X;omega
    have hXn:X<=n:=by omega
    have hd:Plain.decimal (bn l)=((X:Int),0):=Prod.ext hX g1;have hone:Plain.one l=nY l (bn l).length X:=by
     unfold Plain.one;rw[hd,if_pos]
     .rfl
     .refine⟨by omega,h9,rfl,?_,?_⟩
      .simp only[Int.toNat_natCast];omega
      .simp only[Int.toNat_natCast];omega
    rw[hone];unfold nY;generalize ht:(l.take X).drop ((bn l).length+1)=t;have htl:t.length<=140737488351232:=by rw[<-ht,zW,zQ];omega
    have hsf:=O1 t 10;have hcs:∀ w,Calls qp0 244 #[.string ⟨t.toArray⟩,.string ⟨#[10]⟩] w fun e w'=>e=.returned (.tuple #[.string ⟨(Lib.trimSuffix t [10]).toArray⟩,.bool (Lib.hasSuffix t [10])])/\w=w':=fun w=>(Tryz.strings_CutSuffix ⟨t.toArray⟩ ⟨#[10]⟩ w (by show t.length<=_;omega)).mono fun e w' ⟨he,hw⟩=>⟨he,hw.symm⟩
    have hul:(Lib.trimSuffix t [10]).length<=140737488355328:=by
     unfold Lib.trimSuffix;split
     .rw[zQ];omega
     .omega
    have hsc:=fun w=>XU (Lib.trimSuffix t [10]) 61 w hul
    have abX:=hsf.2;rw[hsf.1] at hcs abX;generalize hu:Lib.trimSuffix t [10]=u at *
    unfold cutV at hsc;by_cases hen:t.getLast? = some 10
    .rw[if_pos hen];rw[uQ hen] at hcs;have hud:=abX (uQ hen);rw[<-hud];unfold tK;by_cases hfo:(u.takeWhile (· != 61)).length<u.length
     .simp only[if_pos hfo] at hsc;by_cases hk:u.takeWhile (· != 61)=[]
      .rw[if_neg (fun hh=>hh.2 hk)];exact(oC a n c l w ev _ X t u true true _ _ h hn hE rfl hf h9 hd h1X hXn ht hcs hsc (.inr (.inr ⟨rfl,rfl,hk⟩))).mono fun e w' hh=>pU.none hh
      .rw[if_pos ⟨hfo,hk⟩];exact(Wp a n c l w ev _ X t u _ _ h hn hE rfl hf h9 hd h1X hXn ht hcs hsc (by simpa using hk)).mono fun e w' hh=>pU.some hh
     .simp only[if_neg hfo] at hsc;rw[if_neg (fun hh=>hfo hh.1)];exact(oC a n c l w ev _ X t u true false u [] h hn hE rfl hf h9 hd h1X hXn ht hcs hsc (.inr (.inl ⟨rfl,rfl⟩))).mono fun e w' hh=>pU.none hh
    .rw[if_neg hen];rw[uU hen] at hcs;by_cases hfo:(u.takeWhile (· != 61)).length<u.length
     .simp only[if_pos hfo] at hsc;exact(oC a n c l w ev _ X t u false true _ _ h hn hE rfl hf h9 hd h1X hXn ht hcs hsc (.inl rfl)).mono fun e w' hh=>pU.none hh
     .simp only[if_neg hfo] at hsc;exact(oC a n c l w ev _ X t u false false u [] h hn hE rfl hf h9 hd h1X hXn ht hcs hsc (.inl rfl)).mono fun e w' hh=>pU.none hh
   .have hone:Plain.one l=Option.none:=by
     unfold Plain.one;rw[if_neg];rintro⟨_,_,a3,a4,a5⟩;exact hgood ⟨a3,by omega,by omega⟩
    rw[hone];refine(XA a n c l w ev h hn hE hf h9 ?_).mono fun e w' hh=>pU.none hh
    show(Plain.decimal (bn l)).2≠0\/((Plain.decimal (bn l)).2=0/\((Plain.decimal (bn l)).1<=((bn l).length:Int)+1\/(¬ (Plain.decimal (bn l)).1<=((bn l).length:Int)+1/\(n:Int)<(Plain.decimal (bn l)).1)));by_cases e1:(Plain.decimal (bn l)).2=0
    .right
     refine⟨e1,?_⟩;by_cases e2:(Plain.decimal (bn l)).1<=((bn l).length:Int)+1
     .exact .inl e2
     .exact .inr ⟨e2,qba fun e3=>hgood ⟨e1,e2,e3⟩⟩
    .exact .inl e1
  .have hone:Plain.one l=Option.none:=by unfold Plain.one;rw[if_neg (fun hc=>h9 hc.2.1)]
   rw[hone];exact(Rn a n c l w h hf (by show 9<(bn l).length;omega)).mono fun e w' hh=>pU.none hh
 .have hone:Plain.one l=Option.none:=Kg l (by omega);rw[hone];exact(JA a n c l w h hf).mono fun e w' hh=>pU.none hh
def qB(w:World)(r:Option (List Pr))(e:Ending)(w':World):Prop :=Below w.heap.size w w'/\match r with
  | Option.none=>e=.returned (.tuple #[.slice Option.none 0 0,.int .i64 50])
  | Option.some ps=>∃ a n c,e=.returned (.tuple #[.slice a n c,.int .i64 0])/\w'.ownsRow w.heap.size 160 2 (.slice a n c) n (ps.flatMap aR)
def af6:Value->Nat
 | .slice _ n _=>n
 | _=>0
theorem qB.no{w w':World}(h:Below w.heap.size w w'):qB w Option.none (.returned (.tuple #[.slice Option.none 0 0,.int .i64 50])) w':=⟨h,rfl⟩
theorem qB.yes{w w':World}{ps:List Pr}{a:Option Addr}{n c:Nat}(h:Below w.heap.size w w')(ho:w'.ownsRow w.heap.size 160 2 (.slice a n c) n (ps.flatMap aR)):qB w (Option.some ps) (.returned (.tuple #[.slice a n c,.int .i64 0])) w':=⟨h,a,n,c,rfl,ho⟩
theorem Below.seq2{B:Nat}{w0 w w':World}(h:Below B w0 w)(k:Below w.heap.size w w')(hB:B<=w.heap.size):Below B w0 w':=h.trans (k.mono hB)
theorem dV{w w':World}{base:Nat}{e:TypeId}{sz:Nat}{v:Value}{n:Nat}{xs:List Value}(h:w.ownsRow base e sz v n xs)(k:Below w.heap.size w w'):w'.ownsRow base e sz v n xs:=VQ h fun j _ hj=>k.block j hj
def F5(w:World)(p:Pr):World:=(w.alloc (.cells #[.string ⟨p.1.toArray⟩,.string ⟨p.2.toArray⟩] 160)).alloc (.cells #[.string ⟨p.1.toArray⟩,.string ⟨p.2.toArray⟩] 160)
theorem GI{w:World}{base:Nat}{e:TypeId}{sz:Nat}{v:Value}{n:Nat}{xs:List Value}(h:w.ownsRow base e sz v n xs)(p:Pr):(F5 w p).ownsRow base e sz v n xs :=dV h (((Below.refl _ _).alloc (aY _) _).alloc (by simp) _)
theorem Tm(w:World)(p:Pr):wh (F5 w p) 2 (some ⟨w.heap.size+1,0,none⟩) 1 1 ([p].flatMap aR):=by
 have:=pq (w.alloc (.cells #[.string ⟨p.1.toArray⟩,.string ⟨p.2.toArray⟩] 160)) 160 2 1 #[.string ⟨p.1.toArray⟩,.string ⟨p.2.toArray⟩] rfl (by decide);simpa[F5,aR] using this
theorem LX{B:Nat}{w0 w:World}(h:Below B w0 w)(p:Pr)(hB:B<=w.heap.size):Below B w0 (F5 w p):=(h.alloc hB _).alloc (by simp;omega) _
theorem VT(a:Option Addr)(n c:Nat)(l:List UInt8)(w:World)(ev:Value)(h:Bs w a n c l)(hn:n<=4294967296)(hE:eO w ev):Calls qp0 184 #[.slice a n c] w (qB w (Plain.read l)):=by
 have HE:=ah hE;clear hE;go_enter func184,ntmps184;go_wp2
 go_loopw [4,0] (fun v j wr=>∃ (a1:Option Addr)(n1 c1:Nat)(a2:Option Addr)(n2 c2:Nat)(ps:List Pr)(l2:List UInt8),v=.slice a1 n1 c1/\j=.slice a2 n2 c2 /\
  Hid (wr.ownsRow w.heap.size 160 2 (.slice a1 n1 c1) n1 (ps.flatMap aR))/\Hid (Bs w a2 n2 c2 l2)/\Hid (Below w.heap.size w wr)/\Hid (Plain.read l=(Plain.read l2).map (ps++·))/\5*n1+n2<=n) (fun _ j _=>af6 j)
 case atStart=>exact⟨none,0,0,a,n,c,[],l,rfl,rfl,World.ownsRow_nil _ _ _ _,h,Below.refl _ _,(by cases Plain.read l <;> rfl:Plain.read l=_),by omega⟩
 case round =>
  obtain⟨a1,n1,c1,a2,n2,c2,ps,l2,rfl,rfl,ho,hb,hbel,hrd,hle⟩:=hrel;have hl2:=hb.out.len;have HL:=ah hl2;clear hl2;by_cases hz:n2=0
  .subst hz;go_wp2
   have e:l2=[]:=O8 HL.out;subst e;have hr:=hrd.out;rw[WO] at hr;go_ret2;rw[hr];exact qB.yes hbel.out (by simpa using ho.out)
  .have hz1:(0:Int)<n2:=by omega
   have HN:=ah (Xe a2 n2 c2 l2 wr ev (Below.bs hbel.out hb.out) (by omega) (HE.out.below hbel.out))
   cases hone:Plain.one l2 with
   | none =>
    have hr:=hrd.out;rw[Ru l2 (by intro e;subst e;exact hz (by simpa using HL.out.symm)) hone] at hr;have HR:=ah hr;clear hr;rw[hone] at HN;go_wp2_with (first|(go_at_call 216;(refine(HN.out).mono ?_);rintro e w3 ⟨hb3,rfl⟩;have HB3:=ah (Below.seq2 hbel.out hb3 hbel.out.size);clear hb3))
    go_ret2;rw[HR.out];exact qB.no (HB3.out.alloc HB3.out.size _)
   | some q =>
    obtain⟨p,X⟩:=q;have hr:=hrd.out;rw[SE l2 p X hone] at hr;have HR:=ah hr;clear hr;have hbd:=tu l2 p X hone;rw[HL.out] at hbd;obtain⟨hb1,hb2⟩:=hbd;rw[hone] at HN;go_wp2_with (first|(go_at_call 216;(refine(HN.out).mono ?_);rintro e w3 ⟨hb3,a3,rfl,hs3⟩;have HB3:=ah (Below.seq2 hbel.out hb3 hbel.out.size);have HO3:=ah (dV ho.out hb3);have KY:=ah hs3;clear hb3 hs3)|(at_builtin;refine nJ rfl _ _ 82 rfl w.heap.size 160 _ 2 32 underlying82 EF rfl (by decide) (by decide) rfl (GI HO3.out p) rfl (Tm w3 p) (sK [p]) (by omega) (by have:=HB3.out.size;simp[F5];omega) ?_;intro a4 c4 w4 Rs hg4))
    have hb4:=below_app (LX HB3.out p HB3.out.size) (GI HO3.out p) hg4 (aY _) (by have:=HB3.out.size;simp[F5];omega);refine⟨⟨a4,n1+1,c4,a3,n2-X,c2-X,ps++[p],l2.drop X,rfl,rfl,?_,KY.out w hb.out,hb4,?_,by omega⟩,?_⟩
    .show World.ownsRow _ _ _ _ _ _ _;simpa using Rs
    .show Plain.read l=_;rw[HR.out]
     cases Plain.read (l2.drop X) <;> simp
    .simp[af6];omega
section
open Go.Maps (Keyed)
namespace St
open Gr (aZ aD aN aO aX aG aS aU)
structure Cn where
 w0:World
 wb:Nat
 mb:Nat
 da:Option Addr
 dn:Nat
 dc:Nat
 data:List UInt8
 lim:kG
 ev:Value
structure Cn.Ok(C:Cn):Prop where
 dat:Bs C.w0 C.da C.dn C.dc C.data
 dn:C.dn<=140737488351232
 wb:C.w0.heap.size<=C.wb
 mb:C.w0.heap.size<=C.mb
 ne:C.wb≠C.mb
 ml:uF C.w0
 er:eO C.w0 C.ev
 pw:lV C.w0
 lim:Plain.eT C.lim=true
structure Ad where
 ga:Option Addr
 gn:Nat
 gc:Nat
 la:Option Addr
 ln:Nat
 lc:Nat
def Ad.zero:Ad:=⟨none,0,0,none,0,0⟩
def VH(C:Cn)(A:Ad)(o:Nat)(s:bW)(code off:Int):Array Value :=#[.slice C.da C.dn C.dc,.int .i64 C.lim.name,.int .i64 C.lim.iP,.int .i64 o,.slice none 0 0,.int .i64 code,.int .i64 off,.int .i64 s.held,.slice A.ga A.gn A.gc,.slice A.la A.ln A.lc,.int .i64 s.zk,.map (some C.mb)]
def zG(x:UInt8):Lit:=.int .u8 (x.toNat:Int)
theorem aaM(x y:UInt8)(h:zG x=zG y):x=y:=by
 simp only[zG,Lit.int.injEq,true_and] at h;exact VL.1 (by omega)
def lgV(v:List UInt8):Value:=.agg #[.string ⟨v.toArray⟩]
def gY(s:bW):UInt8->Option Value:=fun x=>if x=76 then(if s.ln=[] then none else some (lgV s.ln)) else if x=75 then(if s.lr=[] then none else some (lgV s.lr)) else none
def JM(s:bW):Nat:=(if s.ln=[] then 0 else 1)+(if s.lr=[] then 0 else 1)
def JQ(l:List Pr):Prop:=l.length<=1048576/\∀ p∈l,p.1.length<=1048576/\p.2.length<=1048576
theorem JQ.prl{l:List Pr}(h:JQ l):PrL l:=fun p hp=>by have:=h.2 p hp;omega
theorem JQ.nil:JQ []:=⟨by simp,fun p hp=>by cases hp⟩
structure Wk(C:Cn)(A:Ad)(o:Nat)(s:bW)(wr:World):Prop where
 bJ:Below C.w0.heap.size C.w0 wr
 row:wr.heap[C.wb]? = some (.cells (VH C A o s 0 0) 85)
 glob:wr.ownsRow C.w0.heap.size 160 2 (.slice A.ga A.gn A.gc) A.gn (s.glob.flatMap aR)
 loc:wr.ownsRow C.w0.heap.size 160 2 (.slice A.la A.ln A.lc) A.ln (s.loc.flatMap aR)
 long:Gr.Mp zG qp0 5 wr C.mb (JM s) (gY s)
 gb:JQ s.glob
 lb:JQ s.loc
 fit:Plain.uO C.lim s
 Zv:o<=C.dn
theorem Wk.below{C:Cn}{A:Ad}{o:Nat}{s:bW}{wr w':World}(h:Wk C A o s wr)(k:Below wr.heap.size wr w'):Wk C A o s w' :=⟨h.bJ.trans (k.mono h.bJ.size),aU h.row k,dV h.glob k,dV h.loc k,Gr.Mp.below h.long k h.long.lt,h.gb,h.lb,h.fit,h.Zv⟩
theorem Wk.Rp{C:Cn}{A:Ad}{o:Nat}{s:bW}{wr:World}(h:Wk C A o s wr):uD wr A.ga A.gn A.gc s.glob:=mR h.glob
theorem Wk.afa{C:Cn}{A:Ad}{o:Nat}{s:bW}{wr:World}(h:Wk C A o s wr):uD wr A.la A.ln A.lc s.loc:=mR h.loc
theorem Wk.cell{C:Cn}{A:Ad}{o:Nat}{s:bW}{wr:World}(h:Wk C A o s wr)(j:Nat):wr.cell? ⟨C.wb,j,none⟩=(VH C A o s 0 0)[j]?:=aG h.row j
structure gL(C:Cn)(w w':World):Prop where
 os:w'.os=w.os
 tape:w'.tape=w.tape
 output:w'.output=w.output
 size:w.heap.size<=w'.heap.size
 block:∀ i,i<w.heap.size->i≠C.wb->i≠C.mb->w'.heap[i]? = w.heap[i]?
theorem gL.refl(C:Cn)(w:World):gL C w w:=⟨rfl,rfl,rfl,aY _,fun _ _ _ _=>rfl⟩
theorem gL.of{C:Cn}{w w':World}(h:Below w.heap.size w w'):gL C w w':=⟨h.os,h.tape,h.output,h.size,fun i hi _ _=>h.block i hi⟩
theorem gL.trans{C:Cn}{a b c:World}(h:gL C a b)(k:gL C b c):gL C a c :=⟨k.os.trans h.os,k.tape.trans h.tape,k.output.trans h.output,tT h.size k.size,fun i hi h1 h2=>(k.block i (CW hi h.size) h1 h2).trans (h.block i hi h1 h2)⟩
theorem gL.grow{C:Cn}{w w1 w2:World}(h:gL C w w1){g:Nat}(hg:w1.grownBy w2 (some g))(ho:g=C.wb\/g=C.mb\/w.heap.size<=g):gL C w w2 :=⟨hg.os.trans h.os,hg.tape.trans h.tape,hg.output.trans h.output,tT h.size hg.size,fun i hi h1 h2=>(hg.block i (CW hi h.size) (fun e=>by
  have e:=pQ e;rcases ho with ho|ho|ho
  .exact h1 (e.trans ho)
  .exact h2 (e.trans ho)
  .omega)).trans (h.block i hi h1 h2)⟩
def mK(c:Int):List PanicEntry:=[{v:=.iface 179 (.agg #[.int .i64 c]),recovered:=false}]
theorem dF(p:Value)(c:Int)(w:World):Calls qp0 112 #[p,.int .i64 c] w fun e w'=>e=.panicked (mK c)/\w=w':=by
 go_enter func112,ntmps112;go_wp2
 exact⟨rfl,rfl,rfl⟩
theorem RB(l:List Pr)(k:Nat)(h:k<l.length):Plain.iZ (l.take (k+1))=Plain.iZ (l.take k)+jO (l.getD k ([],[])):=by
 unfold Plain.iZ;rw[Nh h,qbH,List.sum_append];simp[List.getD,kM h]
theorem aaN(l:List Pr)(M:Nat)(hl:∀ p∈l,p.1.length<=M/\p.2.length<=M)(hM:M<=140737488351232):Plain.iZ l<=l.length*(2*M+23):=by
 induction l with
 | nil=>simp[Plain.iZ]
 | cons p l ih =>
  have h1:=ih fun q hq=>hl q (by simp[hq])
  have h2:=hl p (by simp);obtain⟨d,hd1,_,hd3⟩:=vQ p (by unfold iN;omega);unfold Plain.iZ at h1 ⊢;simp only[qcf,List.sum_cons,oH];have h3:(jO p:Int)<=2*M+23:=by rw[hd3];unfold iN;omega
  have h4:(((l.length+1:Nat):Int)*(2*M+23))=(l.length:Int)*(2*M+23)+(2*M+23):=by
   rw[Int.natCast_add,Int.add_mul];simp
  rw[h4];omega
theorem Nu(l:List Pr)(hn:l.length<=4194304)(hl:∀ p∈l,p.1.length<=1048576/\p.2.length<=1048576):Plain.iZ l<=10000000000000:=by
 have h:=aaN l 1048576 hl (by decide);have h2:(l.length:Int)*(2*((1048576:Nat):Int)+23)<=4194304*(2*((1048576:Nat):Int)+23):=Int.mul_le_mul_of_nonneg_right (by omega) (by decide);have h3:(4194304:Int)*(2*((1048576:Nat):Int)+23)<=10000000000000:=by decide
 omega
theorem Eu(a:Option Addr)(n c:Nat)(l:List Pr)(w:World)(h:uD w a n c l)(hp:lV w)(hn:n<=4194304)(hl:∀ p∈l,p.1.length<=1048576/\p.2.length<=1048576):Calls qp0 151 #[.slice a n c] w fun e w'=>e=.returned (.int .i64 (Plain.iZ l))/\Below w.heap.size w w':=by
 have hll:=h.len;have hc:=h.cap;have hm:=h.max;have HL:=ah hll;clear hll;have HP:=ah h;clear h;have HPW:=ah hp;clear hp;have HBD:=ah hl;clear hl;go_enter func151,ntmps151;go_wp2
 go_loopw [3,8] (fun t i wr=>∃ k:Nat,k<=n/\i=.int .i64 k/\t=.int .i64 (Plain.iZ (l.take k))/\Hid (Below w.heap.size w wr)) (fun _ i _=>n-(intOf i).toNat)
 case atStart=>exact⟨0,M8 _,rfl,rfl,ah (Below.refl _ _)⟩
 case round =>
  obtain⟨k,hkn,rfl,rfl,HB⟩:=hrel;by_cases hlt:k<n
  .have hkl:k<l.length:=by rw[HL.out];exact hlt
   obtain⟨pb,off,rfl,h0,h1⟩:=(Below.Sq HB.out HP.out).at k hlt;have hki:(k:Int)<n:=by omega
   have hmem:l.getD k ([],[])∈l:=by rw[List.getD,kM hkl];exact VE hkl
   have ht:=RB l k hkl;have hb:=HBD.out _ hmem;have hs1:=Nu (l.take k) (by rw[zQ];omega) (fun p hp=>HBD.out p (qbY hp));have hs0:=Plain.jD (l.take k);have hsb:=Nz (l.getD k ([],[])) (by omega) (by omega);generalize hg:l.getD k ([],[])=g at h0 h1 ht hb hsb;obtain⟨gk,gv⟩:=g;simp only at h0 h1 hb;have qj:=ah (fun wr hp=>RF (gk,gv) wr hp (by simp only;omega) (by simp only;omega));have HT:=ah ht;generalize jO (gk,gv)=z at *
   generalize Plain.iZ (l.take k)=S at *
   clear hmem hg ht hkl;go_wp2_with (go_at_call 131;refine(qj.out _ (HPW.out.below (HB.out.alloc HB.out.size _))).mono ?_;rintro e w2 ⟨rfl,hb2⟩;have HB2:=ah (Below.seq (HB.out.alloc HB.out.size _) hb2);clear hb2)
   exact⟨⟨k+1,by omega,by go_num,by rw[HT.out],HB2⟩,by simp[intOf];omega⟩
  .obtain rfl:k=n:=by omega
   have hki:¬ (k:Int)<k:=by omega
   have e:l.take k=l:=MU (by rw[HL.out];exact aY _);go_wp2
   go_ret;exact⟨by first|rfl|(rw[e];rfl),HB.out⟩
end St
end
section
open Go.Maps (Keyed)
namespace St
open Gr (aZ aD aN aO aX aG aS aU)
theorem Cn.Ok.bs{C:Cn}(h:C.Ok){wr:World}(hb:Below C.w0.heap.size C.w0 wr):Bs wr C.da C.dn C.dc C.data:=Below.bs hb h.dat
theorem XG(s:bW):(decide (0<s.zk)||decide (0<JM s))=Plain.pend s:=by
 unfold Plain.pend JM
 cases s.ln <;> cases s.lr <;> simp
theorem zT(C:Cn)(A:Ad)(o:Nat)(s:bW)(w:World)(h:Wk C A o s w):Calls qp0 147 #[.pointer (some ⟨C.wb,0,none⟩)] w fun e w'=>e=.returned (.bool (Plain.pend s))/\w=w':=by
 have hlen:=h.long.aaG (t:=83) underlying83 3;have h10:w.cell? ⟨C.wb,10,none⟩=some (.int .i64 s.zk):=h.cell 10;have h11:w.cell? ⟨C.wb,11,none⟩=some (.map (some C.mb)):=h.cell 11;rw[<-XG];generalize hz:JM s=z at *
 have hfit:=h.fit.2.1;clear h;by_cases hl:0<s.zk
 .simp only[hl,decide_true,Bool.true_or];go_enter func147,ntmps147;go_wp2
  go_ret;exact⟨rfl,rfl⟩
 .simp only[hl,decide_false,Bool.false_or];go_enter func147,ntmps147;go_wp2
  all_goals
   go_ret;exact⟨by simp_all,rfl⟩
def cutV(ad:Option Addr)(c lo hi:Nat):Value:=sliced ad lo hi c 1
theorem xk{w:World}{ad:Option Addr}{n c:Nat}{l:List UInt8}(h:Bs w ad n c l)(lo hi:Nat)(h1:lo<=hi)(h2:hi<=n):∃ a',cutV ad c lo hi=.slice a' (hi-lo) (c-lo)/\Bs w a' (hi-lo) (c-lo) (eH l lo hi) :=⟨_,rfl,H9 h lo hi h1 h2⟩
section
variable {P:Program}{ops:Array Oper}{rest:List Oper}{o:Oper}{a:Act}{w:World}{Q:Exit->Act->World->Prop}
theorem kJ(hgd:o.guard=none)(t:TypeId)(x lo hi:Operand)(ho:o.op=.slice t x (some lo) (some hi) none)(ht:P.underlying t=some (.slice (P.elem t)))(hs:∀ w,(sizeOf (P.elem t)).run P w=.ok 1 w){ad:Option Addr}{n c:Nat}(hx:a.eval x=.slice ad n c)(l h:Nat){li hi':Int}(hlo:a.eval lo=.int .i64 li)(hhi:a.eval hi=.int .i64 hi')(e1:li=l)(e2:hi'=h)(h1:l<=h)(h2:h<=c)(hk:wpList P ops Q rest (a.put o.dst (cutV ad c l h)) w):wpList P ops Q (o::rest) a w:=by
 subst e1 e2;refine bI hgd _ w ?_ hk;have hr:=run_slice_lh (P:=P) (w:=w) t ad n c ht .i64 .i64 (l:Int) (h:Int) (by omega) (by omega) (by omega);have hr2:=(run_sliceAt_slice w t _ _ _ _ ht).trans hr;simp only[hs,Result.andThen,Int.toNat_natCast] at hr2;simp[execOp,ho,hx,hlo,hhi,hr2,Result.andThen,cutV]
end
theorem Ik:∀ w,(sizeOf (qp0.elem 22)).run qp0 w=.ok 1 w:=fun w=>by kernel_rfl
def agz(C:Cn)(A:Ad)(o:Nat)(s:bW)(n:Int)(w:World)(e:Ending)(w':World):Prop :=((Plain.there C.data (o+512) n=true/\e=.returned (cutV C.da C.dc (o+512) (o+512+n.toNat)))\/(Plain.there C.data (o+512) n=false/\e=.panicked (mK 70)))/\Wk C A o s w'/\Below w.heap.size w w'
theorem sN(C:Cn)(hC:C.Ok)(A:Ad)(o:Nat)(s:bW)(n:Int)(w:World)(h:Wk C A o s w)(h0:0<=n)(h1:n<9223372036854775808)(ho:o+512<=C.dn):Calls qp0 150 #[.pointer (some ⟨C.wb,0,none⟩),.int .i64 n] w (agz C A o s n w):=by
 have hdn:=hC.dn;have hl:=hC.dat.len;have hcap:=hC.dat.cap;have hmax:=hC.dat.max;have h3:w.cell? ⟨C.wb,3,none⟩=some (.int .i64 o):=h.cell 3;have hc0:w.cell? ⟨C.wb,0,none⟩=some (.slice C.da C.dn C.dc):=h.cell 0;have HSP:Hid (∀ w,Calls qp0 117 #[.int .i64 n] w fun e w'=>e=.returned (.int .i64 (Plain.span n))/\w'=w):=ah (fun w=>(KW n h1 w).mono fun _ _ h=>⟨h.1,h.2.symm⟩);have hs0:=Plain.gy n;have hsg:=Plain.Bl n;have hsb:Plain.span n<=36028797018963968:=by unfold Plain.span;split <;> omega
 have htt:=Plain.tX C.data (o+512) n;have htf:=Plain.Lr C.data (o+512) n;rw[hl] at htt htf;have e1:(((C.dn-(o+512):Nat)):Int)=(C.dn:Int)-((o:Int)+512):=by omega
 rw[e1] at htt htf;have HW:=ah h;clear h e1;generalize Plain.span n=sp at *
 obtain⟨N,rfl⟩:=Xq h0;have eN:(Int.ofNat N).toNat=N:=rfl
 cases hth:Plain.there C.data (o+512) (Int.ofNat N) with
 | true =>
  have ht:=htt.1 hth;have adq:=ah hth;go_enter func150,ntmps150;go_upto_region 2 with fail
  go_quiet (first|(go_at_call 117;exact Calls.quiet_of_same (HSP.out _)))
  have hd:decide (((C.dn:Int)-((o:Int)+512)) / 512<sp)=false:=by simp;omega
  have hle:(o:Int)+512+N<=C.dn:=by omega
  have hle2:(o:Int)+512+N<=C.dc:=by omega
  rw[hd];generalize ((C.dn:Int)-((o:Int)+512)) / 512=q;clear h1 hsb hmax htt htf hsg hs0 ht hd hth;have HW2:=ah (HW.out.below (Below.drewN (Below.refl w.heap.size w) nq));have hc0':(w.drewN nq).cell? ⟨C.wb,0,none⟩=some (.slice C.da C.dn C.dc):=hc0;have hbb:Below w.heap.size w (w.drewN nq):=Below.drewN (Below.refl w.heap.size w) nq;have HBB:=ah hbb;clear hbb h3 hc0;generalize w.drewN nq=w2 at *
  go_wp2_with (refine kJ rfl 22 _ _ _ rfl underlying22 Ik rfl (o+512) (o+512+N) rfl rfl (by omega) (by omega) (by omega) (by omega) ?_)
  go_ret;exact⟨.inl ⟨adq.out,rfl⟩,HW2.out,HBB.out⟩
 | false =>
  have ht:=htf.1 hth;have adq:=ah hth;go_enter func150,ntmps150;go_upto_region 2 with fail
  go_quiet (first|(go_at_call 117;exact Calls.quiet_of_same (HSP.out _)))
  generalize ((C.dn:Int)-((o:Int)+512)) / 512=q;clear h1 hsb hmax htt htf hsg hs0 ht hth;have HW2:=ah (HW.out.below (Below.drewN (Below.refl w.heap.size w) nq));have hbb:Below w.heap.size w (w.drewN nq):=Below.drewN (Below.refl w.heap.size w) nq;have HBB:=ah hbb;clear hbb h3 hc0;generalize w.drewN nq=w2 at *
  go_wp2_with (go_at_call 112;refine(dF _ _ _).mono ?_;rintro e w3 ⟨rfl,rfl⟩)
  exact⟨rfl,.inr ⟨adq.out,rfl⟩,HW2.out,HBB.out⟩
end St
end
section
open Go.Maps (Keyed)
namespace St
open Gr (aZ aD aN aO aX aG aS aU)
def oP(C:Cn)(A:Ad)(o:Nat)(s:bW)(n:Int)(w:World)(e:Ending)(w':World):Prop :=(match Plain.recs C.data C.lim (o+512) n with
  | .error c=>e=.panicked (mK c)
  | .ok ps=>∃ a m c,e=.returned (.slice a m c)/\w'.ownsRow C.w0.heap.size 160 2 (.slice a m c) m (ps.flatMap aR))/\Wk C A o s w'/\Below w.heap.size w w'
theorem FY(C:Cn)(hC:C.Ok)(A:Ad)(o:Nat)(s:bW)(n:Int)(w:World)(h:Wk C A o s w)(h0:0<=n)(h1:n<9223372036854775808)(ho:o+512<=C.dn):Calls qp0 148 #[.pointer (some ⟨C.wb,0,none⟩),.int .i64 n] w (oP C A o s n w):=by
 have hc2:w.cell? ⟨C.wb,2,none⟩=some (.int .i64 C.lim.iP):=h.cell 2;have HP:=ah (sN C hC A o s n w h h0 h1 ho);have HW:=ah h;have hlim:C.lim.iP<=1048576:=by have:=hC.lim;unfold Plain.eT at this;have:=of_decide_eq_true this;omega
 by_cases hp:C.lim.iP<n
 .have hr:Plain.recs C.data C.lim (o+512) n=.error 74:=by unfold Plain.recs;rw[if_pos hp]
  have HR:=ah hr;clear hr h;go_enter func148,ntmps148;go_wp2_with (go_at_call 112;refine(dF _ _ _).mono ?_;rintro e w3 ⟨rfl,rfl⟩)
  exact⟨rfl,by unfold oP;rw[HR.out];exact⟨rfl,HW.out,Below.refl _ _⟩⟩
 .cases hth:Plain.there C.data (o+512) n with
  | false =>
   have hr:Plain.recs C.data C.lim (o+512) n=.error 70:=by unfold Plain.recs;rw[if_neg hp,if_pos hth]
   have HR:=ah hr;have Mj:Hid (Calls qp0 150 #[.pointer (some ⟨C.wb,0,none⟩),.int .i64 n] w fun e w'=>e=.panicked (mK 70)/\Wk C A o s w'/\Below w.heap.size w w'):=ah (HP.out.mono fun e w' h=>⟨by
    rcases h.1 with⟨h2,_⟩|⟨_,h2⟩
    .rw[hth] at h2;cases h2
    .exact h2,h.2⟩)
   clear hr h HP hth;go_enter func148,ntmps148;go_wp2_with (go_at_call 150;refine(Mj.out).mono ?_;rintro e w3 ⟨rfl,h3,h4⟩;have HW3:=ah h3;have HB3:=ah h4;clear h3 h4)
   exact⟨rfl,by unfold oP;rw[HR.out];exact⟨rfl,HW3.out,HB3.out⟩⟩
  | true =>
   obtain⟨N,rfl⟩:=Xq h0;have hle:=Plain.xU (d:=C.data) (o:=o+512) (by rw[hC.dat.len];exact ho) hth;rw[hC.dat.len] at hle;have hle:o+512+N<=C.dn:=hle;have Tf:=ah (fun wr (hb:Below C.w0.heap.size C.w0 wr)=>xk (hC.bs hb) (o+512) (o+512+N) (by omega) hle);have Mj:Hid (Calls qp0 150 #[.pointer (some ⟨C.wb,0,none⟩),.int .i64 (N:Int)] w fun e w'=>∃ a',e=.returned (.slice a' N (C.dc-(o+512)))/\Bs w' a' N (C.dc-(o+512)) (eH C.data (o+512) (o+512+N))/\Wk C A o s w'/\Below w.heap.size w w'):=ah (HP.out.mono fun e w' h=>by
    rcases h.1 with⟨_,h2⟩|⟨h2,_⟩
    .obtain⟨a',e1,e2⟩:=Tf.out w' h.2.1.bJ;have e3:o+512+N-(o+512)=N:=by omega
     rw[e3] at e1 e2;exact⟨a',by rw[h2];exact congrArg _ e1,e2,h.2⟩
    .rw[hth] at h2;cases h2)
   have hN:N<=1048576:=by omega
   have UW:=ah (fun (wr:World) (a':Option Addr) (hb:Bs wr a' N (C.dc-(o+512)) (eH C.data (o+512) (o+512+N))) (hk:Wk C A o s wr)=>VT a' N (C.dc-(o+512)) (eH C.data (o+512) (o+512+N)) wr C.ev hb (by omega) (hC.er.below hk.bJ));generalize hr:Plain.recs C.data C.lim (o+512) (N:Int)=R;have HE:=ah hr;unfold Plain.recs at hr;rw[if_neg hp,hth] at hr;simp only[Bool.true_eq_false,if_false] at hr;have eN:(N:Int).toNat=N:=by omega
   rw[eN] at hr;generalize eH C.data (o+512) (o+512+N)=D at *
   clear h HP hth hle Tf;have hbase:=HW.out.bJ.size
   cases hrd:Plain.read D with
   | none =>
    rw[hrd] at hr UW;have hR:R=.error 50:=by
     rw[<-hr];split <;> rfl
    subst hR;have ZO:Hid (∀ (wr:World) (a':Option Addr) (hb:Bs wr a' N (C.dc-(o+512)) D) (hk:Wk C A o s wr),Calls qp0 184 #[.slice a' N (C.dc-(o+512))] wr fun e w'=>e=.returned (.tuple #[.slice Option.none 0 0,.int .i64 50])/\Below wr.heap.size wr w'):=ah (fun wr a' hb hk=>(UW.out wr a' hb hk).mono fun e w' h=>⟨h.2,h.1⟩);clear UW hr hrd;go_enter func148,ntmps148;go_wp2_with (first|(go_at_call 150;refine(Mj.out).mono ?_;rintro e w3 ⟨a',rfl,hb3,h3,h4⟩;have R5:=ah hb3;have HW3:=ah h3;have HB3:=ah h4;clear hb3 h3 h4)|(go_at_call 184;refine(ZO.out _ _ R5.out HW3.out).mono ?_;rintro e w4 ⟨rfl,h4⟩;have UM:=ah (HW3.out.below h4);have QF:=ah (Below.seq HB3.out h4);clear h4)|(go_at_call 112;refine(dF _ _ _).mono ?_;rintro e w5 ⟨rfl,rfl⟩))
    exact⟨rfl,by unfold oP;rw[HE.out];exact⟨rfl,UM.out,QF.out⟩⟩
   | some ps =>
    rw[hrd] at hr UW;have ZO:Hid (∀ (wr:World) (a':Option Addr) (hb:Bs wr a' N (C.dc-(o+512)) D) (hk:Wk C A o s wr),Calls qp0 184 #[.slice a' N (C.dc-(o+512))] wr fun e w'=>∃ b m c,e=.returned (.tuple #[.slice b m c,.int .i64 0])/\w'.ownsRow wr.heap.size 160 2 (.slice b m c) m (ps.flatMap aR)/\Below wr.heap.size wr w'):=ah (fun wr a' hb hk=>(UW.out wr a' hb hk).mono fun e w' h=>by
     obtain⟨h1,b,m,c,h2,h3⟩:=h;exact⟨b,m,c,h2,h3,h1⟩)
    clear UW hrd;by_cases hz:(N:Int)=0
    .rw[if_pos hz] at hr;subst hr;have hz:N=0:=by omega
     subst hz;go_enter func148,ntmps148;go_wp2_with (first|(go_at_call 150;refine(Mj.out).mono ?_;rintro e w3 ⟨a',rfl,hb3,h3,h4⟩;have R5:=ah hb3;have HW3:=ah h3;have HB3:=ah h4;clear hb3 h3 h4)|(go_at_call 184;refine(ZO.out _ _ R5.out HW3.out).mono ?_;rintro e w4 ⟨b,m,c,rfl,h5,h4⟩;have UM:=ah (HW3.out.below h4);have QF:=ah (Below.seq HB3.out h4);clear h4 h5)|(go_at_call 112;refine(dF _ _ _).mono ?_;rintro e w5 ⟨rfl,rfl⟩))
     have he:Plain.recs C.data C.lim (o+512) 0=.error 50:=HE.out;exact⟨rfl,by unfold oP;simp only[he];exact⟨trivial,UM.out,QF.out⟩⟩
    .rw[if_neg hz] at hr;subst hr;have hzb:((N:Int)==0)=false:=by rw[beq_eq_false_iff_ne];exact hz
     have HZ:=ah hz;clear hz;go_enter func148,ntmps148;go_wp2_with (first|(go_at_call 150;refine(Mj.out).mono ?_;rintro e w3 ⟨a',rfl,hb3,h3,h4⟩;have R5:=ah hb3;have HW3:=ah h3;have HB3:=ah h4;clear hb3 h3 h4)|(go_at_call 184;refine(ZO.out _ _ R5.out HW3.out).mono ?_;rintro e w4 ⟨b,m,c,rfl,h5,h4⟩;have HO4:=ah (h5.mono (tT hbase HB3.out.size));have UM:=ah (HW3.out.below h4);have QF:=ah (Below.seq HB3.out h4);clear h4 h5))
     go_ret;unfold oP;rw[HE.out];exact⟨⟨b,m,c,rfl,HO4.out⟩,UM.out,QF.out⟩
end St
end
section
open Go.Maps (Keyed)
namespace St
open Gr (aZ aD aN aO aX aG aS aU)
def setMany:List Value->Nat->List Value->List Value
 | xs,_,[]=>xs
 | xs,o,v::l=>setMany (xs.set o v) (o+1) l
theorem wO:∀ (l xs:List Value)(o m:Nat),m<=o->(setMany xs o l).take m=xs.take m
 | [],xs,o,m,h=>rfl
 | v::l,xs,o,m,h=>by
  rw[setMany,wO l _ _ _ (by omega),List.take_set,List.set_eq_of_length_le (by rw[zQ];omega)]
theorem yB:∀ (Y:List Pr)(i:Nat)(p:Pr),setMany (Y.flatMap aR) (i*2) (aR p)=(Y.set i p).flatMap aR
 | [],i,p=>by simp[setMany,aR]
 | y::Y,0,p=>by simp[setMany,aR]
 | y::Y,i+1,p=>by
  have ih:=yB Y i p;have e:(i+1)*2=i*2+2:=by omega
  simp only[setMany,aR,qbr] at ih ⊢;rw[e];simp only[NJ,yG,qzs,ih,qbr];rfl
theorem CJ{B:Nat}{e:TypeId}{sz g n cap:Nat}:∀ (l:List Value)(w:World)(xs:List Value)(o:Nat),w.ownsRow B e sz (.slice (some ⟨g,0,none⟩) n cap) n xs -> (w.setCells g o l).ownsRow B e sz (.slice (some ⟨g,0,none⟩) n cap) n (setMany xs o l)/\w.grownBy (w.setCells g o l) (some g)
 | [],w,xs,o,h=>⟨h,⟨rfl,rfl,rfl,aY _,fun _ _ _=>rfl⟩⟩
 | v::l,w,xs,o,h=>by
  have h1:=h.stored o v;have h2:=CJ l (w.setCell ⟨g,o,none⟩ v) _ (o+1) h1.1;exact⟨h2.1,h1.2.trans h2.2⟩
theorem abp{w:World}{B:Nat}{e:TypeId}{sz g n cap m:Nat}{xs:List Value}(h:w.ownsRow B e sz (.slice (some ⟨g,0,none⟩) n cap) n xs)(hm:m<=n):w.ownsRow B e sz (.slice (some ⟨g,0,none⟩) m cap) m (xs.take (m*sz)):=by
 obtain⟨hl,h⟩:=h;rcases h with⟨hv,_⟩|⟨g',cap',cur,hv,hb,hh,hn,hmx,hs,ht⟩
 .simp at hv
 .simp only[Value.slice.injEq,Ba,Addr.mk.injEq,and_true,true_and] at hv;obtain⟨rfl,rfl⟩:=hv;have hle:m*sz<=n*sz:=qbX _ hm;refine⟨by rw[zQ];omega,.inr ⟨g,cap,cur,rfl,hb,hh,tT hm hn,hmx,hs,?_⟩⟩;rw[<-ht,List.take_take,Nat.min_eq_left hle]
theorem UC(Y:List Pr)(m:Nat):(Y.flatMap aR).take (m*2)=(Y.take m).flatMap aR:=by
 induction Y generalizing m with
 | nil=>simp
 | cons y Y ih =>
  cases m with
  | zero=>simp
  | succ m =>
   have e:(m+1)*2=m*2+2:=by omega
   rw[e];simp only[qbr,aR,NJ,yG,List.take_succ_cons];exact congrArg (fun x=>_::_::x) (ih m)
theorem LC(a:Option Addr)(n c:Nat)(l:List Pr)(w:World)(h:uD w a n c l)(hn:n<=4194304):Calls qp0 185 #[.slice a n c] w (ad6 w l):=by
 have ho0:=World.ownsRow_lit (base:=w.heap.size) (e:=160) (size:=2) w #[] 0 (aY _) (by decide) rfl;have hq:=fun (w:World)(a:Option Addr)(l c:Nat)=>_root_.Go.run_eql_slice_nil (P:=qp0) w 82 160 a l c underlying82
 cases a with
 | none =>
  obtain⟨rfl,rfl⟩:=h.2.2.2.2 rfl;have hl:l=[]:=O8 h.len;subst hl;go_enter func185,ntmps185;go_wp2
  go_ret;exact⟨none,0,0,rfl,World.ownsRow_nil _ _ _ _,Below.refl _ _⟩
 | some ad =>
  go_enter func185,ntmps185;go_wp2_with (at_builtin;refine nJ rfl _ _ 82 rfl w.heap.size 160 _ 2 32 underlying82 EF rfl (by decide) (by decide) rfl ho0 rfl ((Keeps.alloc w _).Sq h) (sK l) (by omega) (by simp) ?_;intro a1 c1 w1 ho hg)
  go_ret;simp only[lU,yG] at ho ⊢;exact⟨a1,_,c1,rfl,ho,below_app ((Below.refl _ _).alloc (aY _) _) ho0 hg (aY _) (by simp)⟩
theorem Hf(q:Pr)(pb:Nat)(pk:List UInt8)(w:World)(hp:w.cell? ⟨pb,0,none⟩=some (.string ⟨pk.toArray⟩)):Calls qp0 187 #[.agg #[.string ⟨q.1.toArray⟩,.string ⟨q.2.toArray⟩],.pointer (some ⟨pb,0,none⟩)] w fun e w'=>e=.returned (.bool (q.1==pk))/\Below w.heap.size w w':=by
 have hlt:=World.block_lt_of_cell? (w:=w) (a:=⟨pb,0,none⟩) hp;have hk:(w.alloc (.cells #[.string ⟨q.1.toArray⟩,.string ⟨q.2.toArray⟩] 160)).cell? ⟨pb,0,none⟩=some (.string ⟨pk.toArray⟩):=Keeps.alloc w _ _ _ hp;clear hp;go_enter func187,ntmps187;go_wp2
 go_ret;exact⟨rfl,(Below.refl _ _).alloc (aY _) _⟩
def l7(l:List Pr)(pk:List UInt8):Int:=match l.findIdx? (fun q=>q.1==pk) with|some i=>(i:Int)|none=>-1
theorem P5(l:List Pr)(pk:List UInt8)(k:Nat)(hk:k<l.length)(h:∀ j,j<k->((l.getD j ([],[])).1==pk)=false)(hh:((l.getD k ([],[])).1==pk)=true):l7 l pk=k:=by
 unfold l7;have:l.findIdx? (fun q=>q.1==pk)=some k:=by
  rw[qcd];refine⟨hk,?_,fun j hj=>?_⟩
  .simpa[List.getD,kM hk] using hh
  .have:=h j hj;simpa[List.getD,kM (show j<l.length by omega)] using this
 rw[this]
theorem J4(l:List Pr)(pk:List UInt8)(h:∀ j,j<l.length->((l.getD j ([],[])).1==pk)=false):l7 l pk=-1:=by
 unfold l7;have:l.findIdx? (fun q=>q.1==pk)=none:=by
  rw[List.findIdx?_eq_none_iff];intro x hx;obtain⟨j,hj,rfl⟩:=qbz hx;have:=h j hj;simpa[List.getD,kM hj] using this
 rw[this]
theorem FB(a:Option Addr)(n c:Nat)(l:List Pr)(pb:Nat)(pk:List UInt8)(w:World)(h:uD w a n c l)(hp:w.cell? ⟨pb,0,none⟩=some (.string ⟨pk.toArray⟩)):Calls qp0 217 #[.slice a n c,.func (.func 187) #[] #[.pointer (some ⟨pb,0,none⟩)]] w fun e w'=>e=.returned (.int .i64 (l7 l pk))/\Below w.heap.size w w':=by
 have hll:=h.len;have hc:=h.cap;have hm:=h.max;have HL:=ah hll;clear hll;have HP:=ah h;clear h;have HPB:=ah hp;clear hp;have hmiss:=J4 l pk;have hhit:=P5 l pk;generalize l7 l pk=F at *
 have aeY:=ah hmiss;have agC:=ah hhit;clear hmiss hhit;go_enter func217,ntmps217;go_wp2
 go_loopw [8] (fun i wr=>∃ k:Nat,k<=n/\i=.int .i64 k/\Hid (∀ j,j<k->((l.getD j ([],[])).1==pk)=false)/\Hid (Below w.heap.size w wr)) (fun i _=>n-(intOf i).toNat)
 case atStart=>exact⟨0,M8 _,rfl,ah (fun j hj=>absurd hj (qbq _)),ah (Below.refl _ _)⟩
 case round =>
  obtain⟨k,hkn,rfl,HS,HB⟩:=hrel;by_cases hlt:k<n
  .have hkl:k<l.length:=by rw[HL.out];exact hlt
   obtain⟨ab,off,rfl,h0,h1⟩:=(Below.Sq HB.out HP.out).at k hlt;have hki:(k:Int)<n:=by omega
   have hh:=agC.out k hkl HS.out;have hs:=HS.out;generalize hg:l.getD k ([],[])=g at h0 h1 hh;have HG:=ah hg;have HK:=ah (Hf g pb pk wr (Below.keeps HB.out _ _ HPB.out));obtain⟨gk,gv⟩:=g;simp only at h0 h1 hh HK
   cases hb:(gk==pk) with
   | true =>
    rw[hb] at HK hh;have HF:=ah (hh rfl);clear hh hs hb hg hkl;go_wp2_with (go_at_call 187;refine(HK.out).mono ?_;rintro e w2 ⟨rfl,hb2⟩;have HB2:=ah (Below.seq HB.out hb2);clear hb2)
    go_ret;exact⟨by rw[HF.out];rfl,HB2.out⟩
   | false =>
    rw[hb] at HK;have HN:Hid (∀ j,j<k+1->((l.getD j ([],[])).1==pk)=false):=ah (fun j hj=>by
     by_cases e:j=k
     .subst e;rw[HG.out];exact hb
     .exact HS.out j (by omega))
    clear hh hs hb hg hkl;go_wp2_with (go_at_call 187;refine(HK.out).mono ?_;rintro e w2 ⟨rfl,hb2⟩;have HB2:=ah (Below.seq HB.out hb2);clear hb2)
    exact⟨⟨k+1,by omega,by go_num,HN,HB2⟩,by simp[intOf];omega⟩
  .obtain rfl:k=n:=by omega
   have hki:¬ (k:Int)<k:=by omega
   have HF:=ah (aeY.out (fun j hj=>HS.out j (by rw[HL.out] at hj;exact hj)));go_wp2
   go_ret;exact⟨by rw[HF.out];rfl,HB.out⟩
end St
end
section
open Go.Maps (Keyed)
namespace St
open Gr (aZ aD aN aO aX aG aS aU)
section
variable {P:Program}{ops:Array Oper}{rest:List Oper}{o:Oper}{a:Act}{w:World}{Q:Exit->Act->World->Prop}
theorem uH(z:Array Value)(n:Nat):(Builtin.zeroCells z n).toList.length=n*z.size:=by simp[Builtin.zeroCells]
theorem FN(z:Array Value)(hz:∀ i,i<z.size->(z[i]!).oneCell'=true)(n:Nat):∀ v∈(Builtin.zeroCells z n).toList,v.oneCell'=true:=by
 intro v hv;simp only[Builtin.zeroCells,Array.toList_map,ZW] at hv;obtain⟨i,hi,rfl⟩:=hv;have hi:i<n*z.size:=by simpa using hi
 have hp:0<z.size:=by
  rcases UZ z.size with h|h
  .rw[h,Nat.mul_zero] at hi;omega
  .exact h
 exact hz _ (qcz _ hp)
theorem AZ(hgd:o.guard=none)(x:Operand)(t:TypeId)(ho:o.op=.call {callee:=.builtin .clear,args:=#[x],argTypes:=#[t]})(e:TypeId)(ht:P.underlying t=some (.slice e))(z:Value)(hz:∀ w,(zeroValue e).run P w=.ok z w)(h1:∀ i,i<z.cells.size->(z.cells[i]!).oneCell'=true)(g off n c:Nat)(hx:a.eval x=.slice (some ⟨g,off,none⟩) n c)(hn:0<n)(hth:w.there g off (n*z.cells.size))(hk:wpList P ops Q rest (a.put o.dst (.tuple #[])) (w.setCells g off (Builtin.zeroCells z.cells n).toList)):wpList P ops Q (o::rest) a w:=by
 refine bI hgd _ _ ?_ hk;have hst:=run_storeCells_cells (P:=P) g off (Builtin.zeroCells z.cells n).toList 0 w (by rw[uH];intro j hj;exact(hth j hj).1) (by rw[uH];intro j hj;exact(hth j hj).2) (FN _ h1 n);simp only[R4] at hst;obtain⟨m,rfl⟩:∃ m,n=m+1:=⟨n - 1,by omega⟩
 have hr:(Builtin.clear_ #[t] o.type #[.slice (some ⟨g,off,none⟩) (m+1) c]).run P w=.ok (.tuple #[]) (w.setCells g off (Builtin.zeroCells z.cells (m+1)).toList):=by
  simp[Builtin.clear_,run_underlying ht,hz,hst]
 simp[execOp,ho,resolve,invoke,builtin,hx,hr,Result.andThen]
end
theorem YK{w:World}{B:Nat}{e:TypeId}{sz n c:Nat}{a:Option Addr}{xs:List Value}(h:w.ownsRow B e sz (.slice a n c) n xs)(hn:0<n):∃ g,a=some ⟨g,0,none⟩/\B<=g/\g<w.heap.size:=by
 rcases h.2 with⟨hv,h0⟩|⟨g,cap,cur,hv,hb,hh,_⟩
 .omega
 .simp only[Value.slice.injEq,true_and] at hv;exact⟨g,hv.1,hb,(fT.1 hh).1⟩
def stays(pk:List UInt8)(q:Pr):Bool:=!(q.1==pk)
def agL(w:World)(a:Option Addr)(n c:Nat)(l:List Pr)(pk:List UInt8)(B:Nat)(e:Ending)(w':World):Prop :=∃ (a':Option Addr)(m c':Nat),e=.returned (.slice a' m c')/\w'.ownsRow B 160 2 (.slice a' m c') m ((l.filter (stays pk)).flatMap aR)/\w.grownBy w' (Value.slice a n c).ownBlock/\(Value.slice a' m c').ownBlock=(Value.slice a n c).ownBlock/\m<=n
theorem jW{w w':World}{row:Option Nat}(h:Below w.heap.size w w'):w.grownBy w' row:=Gr.below_grown h row
theorem KV(l:List Pr)(pk:List UInt8)(j:Nat)(hj:j<l.length):(l.take (j+1)).filter (stays pk)=(l.take j).filter (stays pk)++(if stays pk (l.getD j ([],[]))=true then[l.getD j ([],[])] else[]):=by
 rw[Nh hj,List.filter_append];have:l.getD j ([],[])=l[j]:=by simp[List.getD,kM hj]
 rw[this]
 cases h:stays pk l[j] <;> simp[h]
theorem filter_none(l:List Pr)(pk:List UInt8)(h:l7 l pk=-1):l.filter (stays pk)=l:=by
 rw[List.filter_eq_self];intro q hq;unfold l7 at h
 cases hf:l.findIdx? (fun q=>q.1==pk) with
 | some i=>rw[hf] at h;simp only at h;omega
 | none =>
  rw[List.findIdx?_eq_none_iff] at hf;have:=hf q hq;simp[stays,this]
theorem Mv(l:List Pr)(pk:List UInt8)(h:l7 l pk≠-1):∃ i:Nat,l7 l pk=(i:Int)/\i<l.length/\(l.take (i+1)).filter (stays pk)=l.take i:=by
 unfold l7 at h ⊢
 cases hf:l.findIdx? (fun q=>q.1==pk) with
 | none=>rw[hf] at h;exact absurd rfl h
 | some i =>
  rw[qcd] at hf;obtain⟨hi,h1,h2⟩:=hf;refine⟨i,rfl,hi,?_⟩;rw[Nh hi,List.filter_append];have e1:stays pk l[i]=false:=by simp[stays,h1]
  have e2:(l.take i).filter (stays pk)=l.take i:=by
   rw[List.filter_eq_self];intro q hq;obtain⟨j,hj,rfl⟩:=qbz hq;rw[zQ] at hj;have:=h2 j (by omega);rw[List.getElem_take];simpa[stays] using this
  rw[e2];simp[e1]
theorem Uf(p:Pr):(#[Value.string ⟨p.1.toArray⟩,.string ⟨p.2.toArray⟩]:Array Value).all (·.oneCell')=true:=by
 simp;exact⟨rfl,rfl⟩
theorem Y9(p:Pr):(qp0.info? 160).map (·.size)=some (#[Value.string ⟨p.1.toArray⟩,.string ⟨p.2.toArray⟩]:Array Value).size:=by
 show _=some 2
 kernel_rfl
theorem GV{w:World}{B g n cap:Nat}{Y:List Pr}(h:w.ownsRow B 160 2 (.slice (some ⟨g,0,none⟩) n cap) n (Y.flatMap aR))(off k:Nat)(hk:off+k<=n*2):w.there g off k:=fun j hj=>by
 refine⟨?_,h.frozenAt _⟩;rw[h.cellAt (off+j) (by omega)];have:=h.1;rw[kM (by omega)];rfl
theorem GQ{α:Type}{X Y:List α}{j:Nat}(h:Y.drop j=X.drop j):Y.drop (j+1)=X.drop (j+1):=by
 have:=congrArg (List.drop 1) h;simpa[List.drop_drop,Nat.add_comm] using this
theorem uY{α:Type}:∀ (Y:List α)(i:Nat)(v:α),i<Y.length->(Y.set i v).take (i+1)=Y.take i++[v]
 | [],i,v,h=>by simp at h
 | y::Y,0,v,h=>by simp
 | y::Y,i+1,v,h=>by
  simp only[qzs,List.take_succ_cons,NJ];rw[uY Y i v (by simpa using h)]
theorem drop_set_of_lt{α:Type}:∀ (Y:List α)(i j:Nat)(v:α),i<j->(Y.set i v).drop j=Y.drop j
 | [],i,j,v,h=>by simp
 | y::Y,i,0,v,h=>absurd h (qbq _)
 | y::Y,0,j+1,v,h=>by simp
 | y::Y,i+1,j+1,v,h=>by
  simp only[qzs,List.drop_succ_cons];exact drop_set_of_lt Y i j v (by omega)
def Im:Value:=.agg #[.string ⟨#[]⟩,.string ⟨#[]⟩]
theorem UF(w:World):(zeroValue 160).run qp0 w=.ok Im w:=by kernel_rfl
theorem Py:∀ i,i<Im.cells.size->(Im.cells[i]!).oneCell'=true:=by
 intro i hi;have hi:i<2:=hi;rcases i with _|_|i
 .rfl
 .rfl
 .omega
theorem CY(a:Option Addr)(n c:Nat)(l:List Pr)(pb:Nat)(pk:List UInt8)(B:Nat)(w:World)(h:w.ownsRow B 160 2 (.slice a n c) n (l.flatMap aR))(hB:B<=w.heap.size)(hn:n<=4194304)(hp:w.cell? ⟨pb,0,none⟩=some (.string ⟨pk.toArray⟩))(hpb:(Value.slice a n c).ownBlock≠some pb):Calls qp0 186 #[.slice a n c,.func (.func 187) #[] #[.pointer (some ⟨pb,0,none⟩)]] w (agL w a n c l pk B):=by
 have hpr:=mR h;have hll:=hpr.len;have hc:=hpr.cap;have hm:=hpr.max;have HIX:=ah (FB a n c l pb pk w hpr hp);by_cases hf:l7 l pk=-1
 .rw[hf] at HIX;have HFN:=ah (filter_none l pk hf);have HO:=ah h;clear h hf hpr;go_enter func186,ntmps186;go_wp2_with (go_at_call 217;refine(HIX.out).mono ?_;rintro e w2 ⟨rfl,hb2⟩;have HB2:=ah hb2;clear hb2)
  go_ret;refine⟨a,n,c,rfl,?_,jW HB2.out,rfl,aY _⟩;rw[HFN.out];exact dV HO.out HB2.out
 .obtain⟨i,hi,hil,hft⟩:=Mv l pk hf;rw[hi] at HIX;obtain⟨g,rfl,hBg,hgw⟩:=YK h (by omega);have hgp:g≠pb:=fun e=>hpb (by rw[e];rfl)
  have HO:=ah h;have Ro:=ah hll;have HFT:=ah hft;have HP:=ah hp;have hin:i<n:=by omega
  have hi1:((i:Int)==-1)=false:=by rw[beq_eq_false_iff_ne];omega
  clear h hf hft hpr hp hll hil hi hpb;go_enter func186,ntmps186;go_wp2_with (go_at_call 217;refine(HIX.out).mono ?_;rintro e w2 ⟨rfl,hb2⟩;have HB2:=ah hb2;clear hb2)
  go_loopw [5,6] (fun vi vj wr=>∃ (i j:Nat)(Y:List Pr),i<j/\j<=n/\vi=.int .i64 i/\vj=.int .i64 j/\Hid (Y.length=n)/\Hid (Y.take i=(l.take j).filter (stays pk))/\Hid (Y.drop j=l.drop j) /\
   Hid (wr.ownsRow B 160 2 (.slice (some ⟨g,0,none⟩) n c) n (Y.flatMap aR))/\Hid (w.grownBy wr (some g))) (fun _ vj _=>n-(intOf vj).toNat)
  case atStart=>exact⟨i,i+1,l,by omega,by omega,rfl,by go_num,Ro,ah HFT.out.symm,ah rfl,ah (dV HO.out HB2.out),ah (jW HB2.out)⟩
  case round =>
   obtain⟨i,j,Y,hij,hjn,rfl,rfl,HYL,HYT,HYD,HYO,HG⟩:=hrel;by_cases hlt:j<n
   .have hji:(j:Int)<n:=by omega
    obtain⟨ab,off,he,h0,h1⟩:=(mR HYO.out).at j hlt;simp only[Ba,Addr.mk.injEq,and_true] at he;obtain⟨rfl,rfl⟩:=he;have hyj:Y.getD j ([],[])=l.getD j ([],[]):=by
     have h2:=congrArg (fun z=>z[0]?) HYD.out;simp only[qbE,R4] at h2;simp only[List.getD,h2]
    rw[hyj] at h0 h1;rw[lU] at h0 h1;have hfs:=KV l pk j (by rw[Ro.out];exact hlt);generalize hv:l.getD j ([],[])=v at h0 h1 hfs;have HFS:=ah hfs;have HYJ:=ah (hyj.trans hv);clear hfs hyj hv;obtain⟨vk,vv⟩:=v;simp only at h0 h1;go_upto_region 8 with fail
    have hb1:Below wr.heap.size wr (wr.alloc (.cells #[.string ⟨vk.toArray⟩,.string ⟨vv.toArray⟩] 160)):=(Below.refl _ _).alloc (aY _) _;have hc0:(wr.alloc (.cells #[.string ⟨vk.toArray⟩,.string ⟨vv.toArray⟩] 160)).heap[wr.heap.size]? = some (.cells #[.string ⟨vk.toArray⟩,.string ⟨vv.toArray⟩] 160 (0,0)):=JL;generalize wr.alloc (.cells #[.string ⟨vk.toArray⟩,.string ⟨vv.toArray⟩] 160)=w1 at *
    have d0:w1.cell? ⟨wr.heap.size,0,none⟩=some (.string ⟨vk.toArray⟩):=by simp[World.cell?,hc0]
    have d1:w1.cell? ⟨wr.heap.size,1,none⟩=some (.string ⟨vv.toArray⟩):=by simp[World.cell?,hc0]
    have HO1:=ah (dV HYO.out hb1);have Zm:=ah (HG.out.trans (jW hb1));have HK:=ah (Hf (vk,vv) pb pk w1 (Below.keeps hb1 _ _ (HG.out.cell HP.out (fun e=>hgp (pQ e).symm))));clear hb1 hc0 h0 h1;simp only at HK
    cases hb:(vk==pk) with
    | true =>
     rw[hb] at HK;have acN:Hid ((l.take (j+1)).filter (stays pk)=(l.take j).filter (stays pk)):=ah (by rw[HFS.out];simp[stays,hb]);clear hb;go_wp2_with (go_at_call 187;refine(HK.out).mono ?_;rintro e w2 ⟨rfl,hb2⟩;have HB3:=ah hb2;clear hb2)
     exact⟨⟨i,j+1,Y,by omega,by omega,rfl,by go_num,HYL,ah (by rw[acN.out];exact HYT.out),ah (GQ HYD.out),ah (dV HO1.out HB3.out),ah (Zm.out.trans (jW HB3.out))⟩,by simp[intOf];omega⟩
    | false =>
     rw[hb] at HK;have acN:Hid ((l.take (j+1)).filter (stays pk)=(l.take j).filter (stays pk)++[(vk,vv)]):=ah (by rw[HFS.out];simp[stays,hb]);clear hb;have qj:=ah (Y9 (vk,vv));have F6:=ah (Uf (vk,vv));have hin2:(i:Int)<n:=by omega
     go_upto_region 9 with(go_at_call 187;refine(HK.out).mono ?_;rintro e w2 ⟨rfl,hb2⟩;have HB3:=ah hb2;have f0:=Below.keeps hb2 _ _ d0;have f1:=Below.keeps hb2 _ _ d1;clear hb2)
     have HO2:=ah (dV HO1.out HB3.out);have HG2:=ah (Zm.out.trans (jW HB3.out));have ab8:=ah (CJ (aR (vk,vv)) w2 _ (i*2) HO2.out);go_wp2_with (refine wpList_store_mid rfl 160 _ _ rfl g (i*2) #[.string ⟨vk.toArray⟩,.string ⟨vv.toArray⟩] rfl rfl (GV HO2.out (i*2) 2 (by omega)) qj.out F6.out ?_)
     have hmm:=ab8.out.1;rw[yB] at hmm;exact⟨⟨i+1,j+1,Y.set i (vk,vv),by omega,by omega,by go_num,by go_num,ah (by rw[List.length_set];exact HYL.out),ah (by rw[acN.out,<-HYT.out];exact uY Y i (vk,vv) (by rw[HYL.out];omega)),ah (by rw[drop_set_of_lt _ _ _ _ (by omega)];exact GQ HYD.out),ah hmm,ah (HG2.out.trans ab8.out.2)⟩,by simp[intOf];omega⟩
   .obtain rfl:j=n:=by omega
    have hji:¬ (j:Int)<j:=by omega
    have hci:¬ c=i:=by omega
    have hcj:¬ j=i:=by omega
    have hil:(i:Int)<=j:=by omega
    have hic:(i:Int)<=c:=by omega
    have hpos:0<j-i:=by omega
    go_upto_region 11 with fail
    have HZ:=ah (fun w=>(UF w));go_wp2_with (refine AZ rfl _ 82 rfl 160 underlying82 Im HZ.out Py g (i*2) (j-i) (c-i) rfl hpos (GV HYO.out (i*2) ((j-i)*2) (by omega)) ?_)
    go_ret;have hfin:∀ Z:List Value,(wr.setCells g (i*2) Z).ownsRow B 160 2 (.slice (some ⟨g,0,none⟩) i c) i ((l.filter (stays pk)).flatMap aR)/\w.grownBy (wr.setCells g (i*2) Z) (some g):=fun Z=>by
     have hm2:=CJ Z wr _ (i*2) HYO.out;have hcut:=abp hm2.1 (m:=i) (by omega);rw[wO _ _ _ _ (aY _),UC,HYT.out,MU (by rw[Ro.out];exact aY _)] at hcut;exact⟨hcut,HG.out.trans hm2.2⟩
    exact⟨_,i,c,rfl,(hfin _).1,(hfin _).2,rfl,by omega⟩
end St
end
section
open Go.Maps (Keyed)
namespace St
open Gr (aZ aD aN aO aX aG aS aU)
theorem Kl(p:Pr):p.1.length+p.2.length+3<=jO p:=by unfold jO iN;omega
theorem JV(l:List Pr)(h:Plain.iZ l<=1048576):JQ l:=by
 have key:∀ l:List Pr,(l.length:Int)<=Plain.iZ l/\∀ p∈l,((p.1.length:Int)+p.2.length<=Plain.iZ l):=by
  intro l
  induction l with
  | nil=>exact⟨by simp[Plain.iZ],fun p hp=>by cases hp⟩
  | cons q l ih =>
   have h0:=Plain.jD l;have h1:=Kl q;have e:Plain.iZ (q::l)=jO q+Plain.iZ l:=by simp[Plain.iZ]
   rw[e];refine⟨by rw[oH];have:=ih.1;omega,fun p hp=>?_⟩;rcases rD.1 hp with rfl|hp
   .omega
   .have:=ih.2 p hp;omega
 obtain⟨h1,h2⟩:=key l;exact⟨by omega,fun p hp=>by have:=h2 p hp;omega⟩
theorem Wk.set{C:Cn}{A:Ad}{o:Nat}{s:bW}{w:World}(hC:C.Ok)(h:Wk C A o s w)(j:Nat)(v:Value):Below C.w0.heap.size C.w0 (w.setCell ⟨C.wb,j,none⟩ v)/\(w.setCell ⟨C.wb,j,none⟩ v).heap[C.wb]? = some (.cells ((VH C A o s 0 0).setIfInBounds j v) 85) /\
  (∀ {a:Option Addr}{n c:Nat}{l:List Pr},w.ownsRow C.w0.heap.size 160 2 (.slice a n c) n (l.flatMap aR)->(w.setCell ⟨C.wb,j,none⟩ v).ownsRow C.w0.heap.size 160 2 (.slice a n c) n (l.flatMap aR)) /\
  Gr.Mp zG qp0 5 (w.setCell ⟨C.wb,j,none⟩ v) C.mb (JM s) (gY s)/\Below C.w0.heap.size w (w.setCell ⟨C.wb,j,none⟩ v):=by
 have hg:=aD w C.wb j v;have hb:Below C.w0.heap.size w (w.setCell ⟨C.wb,j,none⟩ v):=(Below.refl _ _).setCell hC.wb v;exact⟨h.bJ.trans hb,aO h.row v,fun {a n c l} ho=>aX ho hg (Or.inr (aN ho h.row (by decide))),Gr.Mp.kept h.long hg (fun e=>hC.ne (pQ e).symm),hb⟩
theorem Wk.agT{C:Cn}{A:Ad}{o:Nat}{s:bW}{w:World}(hC:C.Ok)(h:Wk C A o s w){a:Option Addr}{n c:Nat}{K:List Pr}(ho:w.ownsRow C.w0.heap.size 160 2 (.slice a n c) n (K.flatMap aR))(hK:Plain.iZ K<=C.lim.iP):Wk C {A with ga:=a,gn:=n,gc:=c} o {s with glob:=K} (w.setCell ⟨C.wb,8,none⟩ (.slice a n c)):=by
 have hlim:C.lim.iP<=1048576:=by have:=hC.lim;unfold Plain.eT at this;have:=of_decide_eq_true this;omega
 obtain⟨h1,h2,h3,h4,_⟩:=h.set hC 8 (.slice a n c)
 exact⟨h1,h2,h3 ho,h3 h.loc,h4,JV K (by omega),h.lb,⟨hK,h.fit.2⟩,h.Zv⟩
def BI(C:Cn)(A:Ad)(o:Nat)(s:bW)(more:List Pr)(w:World)(e:Ending)(w':World):Prop :=
 if C.lim.iP<Plain.iZ (Plain.merge s.glob more) then e=.panicked (mK 74)/\Wk C A o s w'/\Below w.heap.size w w'
 else e=.returned (.tuple #[])/\(∃ A',Wk C A' o {s with glob:=Plain.merge s.glob more} w')/\gL C w w'
theorem Yx(g more:List Pr)(hg:JQ g)(hm:JQ more)(k:Nat)(hk:k<=more.length):(Plain.merge g (more.take k)).length<=g.length+k/\∀ p∈Plain.merge g (more.take k),p.1.length<=1048576/\p.2.length<=1048576:=by
 induction k with
 | zero=>exact⟨by simp[Plain.merge],fun p hp=>hg.2 p (by simpa[Plain.merge] using hp)⟩
 | succ k ih =>
  obtain⟨h1,h2⟩:=ih (by omega);rw[Plain.El _ _ _ (by omega)];unfold Plain.F8;have hf:=List.length_filter_le (fun q:Pr=>!(q.1==(more.getD k ([],[])).1)) (Plain.merge g (more.take k));have hmem:more.getD k ([],[])∈more:=by rw[List.getD,kM (by omega)];exact VE (by omega)
  refine⟨?_,fun p hp=>?_⟩
  .rw[vG];split
   .simp only[List.length_nil];omega
   .simp only[oH,List.length_nil];omega
  .rcases UY.1 hp with hp|hp
   .exact h2 p (List.mem_filter.1 hp).1
   .split at hp
    .cases hp
    .rw[qbk] at hp;subst hp;exact hm.2 _ hmem
theorem Qn{w:World}{B n:Nat}{v:Value}{xs:List Value}(h:w.ownsRow B 160 2 v n xs)(p:Pr):(w.alloc (.cells #[.string ⟨p.1.toArray⟩,.string ⟨p.2.toArray⟩] 160)).ownsRow B 160 2 v n xs:=h.alloc _
theorem abF(w:World)(p:Pr):wh (w.alloc (.cells #[.string ⟨p.1.toArray⟩,.string ⟨p.2.toArray⟩] 160)) 2 (some ⟨w.heap.size,0,none⟩) 1 1 ([p].flatMap aR):=pq w 160 2 1 _ rfl (by unfold maxLen;omega)
theorem WL(C:Cn)(hC:C.Ok)(A:Ad)(o:Nat)(s:bW)(ma:Option Addr)(mn mc:Nat)(more:List Pr)(w:World)(h:Wk C A o s w)(hm:uD w ma mn mc more)(hmb:JQ more):Calls qp0 149 #[.pointer (some ⟨C.wb,0,none⟩),.slice ma mn mc] w (BI C A o s more w):=by
 have hml:=hm.len;have ahE:=hm.cap;have ahF:=hm.max;have hgl:=h.Rp.len;have hgb:=h.gb;have hc8:w.cell? ⟨C.wb,8,none⟩=some (.slice A.ga A.gn A.gc):=h.cell 8;have HCL:=ah (LC A.ga A.gn A.gc s.glob w h.Rp (by have:=hgb.1;omega));have HW:=ah h;have HM:=ah hm;have HMB:=ah hmb;have HML:=ah hml;have HBD:=ah (fun k hk=>Yx s.glob more hgb hmb k hk);have hmn:mn<=1048576:=by have:=hmb.1;omega
 have hgn:s.glob.length<=1048576:=hgb.1;clear h hm hmb hml hgl hgb;go_enter func149,ntmps149;go_wp2_with (go_at_call 185;refine(HCL.out).mono ?_;rintro e w1 ⟨a1,n1,c1,rfl,ho1,hb1⟩;have HO1:=ah ho1;have HB1:=ah hb1;clear ho1 hb1)
 go_loopw [4,14] (fun v i wr=>∃ (k:Nat)(a:Option Addr)(n c:Nat),k<=mn/\i=.int .i64 k/\v=.slice a n c/\Hid (wr.ownsRow w.heap.size 160 2 (.slice a n c) n ((Plain.merge s.glob (more.take k)).flatMap aR))/\Hid (Below w.heap.size w wr)) (fun _ i _=>mn-(intOf i).toNat)
 case atStart=>exact⟨0,a1,n1,c1,M8 _,rfl,rfl,HO1,HB1⟩
 case round =>
  obtain⟨k,a,n,c,hk,rfl,rfl,HO,HB⟩:=hrel;by_cases hlt:k<mn
  .have hkl:k<more.length:=by rw[HML.out];exact hlt
   obtain⟨ab,off,rfl,h0,h1⟩:=(Below.Sq HB.out HM.out).at k hlt;have hki:(k:Int)<mn:=by omega
   have hmt:=Plain.El s.glob more k hkl;have hbd:=HBD.out k (qb8 hkl);generalize hg:more.getD k ([],[])=g at h0 h1 hmt;obtain⟨gk,gv⟩:=g;simp only at h0 h1;generalize Plain.merge s.glob (more.take k)=K at *
   have hkn:=(mR HO.out).len;have hnb:n<=4194304:=by have:=hbd.1;omega
   have HMT:=ah hmt;clear hmt hg hkl;go_upto_region 4 with fail
   have hb1:Below wr.heap.size wr (wr.alloc (.cells #[.string ⟨gk.toArray⟩,.string ⟨gv.toArray⟩] 160)):=(Below.refl _ _).alloc (aY _) _;have hc0:(wr.alloc (.cells #[.string ⟨gk.toArray⟩,.string ⟨gv.toArray⟩] 160)).heap[wr.heap.size]? = some (.cells #[.string ⟨gk.toArray⟩,.string ⟨gv.toArray⟩] 160 (0,0)):=JL;generalize wr.alloc (.cells #[.string ⟨gk.toArray⟩,.string ⟨gv.toArray⟩] 160)=w2 at *
   have d0:w2.cell? ⟨wr.heap.size,0,none⟩=some (.string ⟨gk.toArray⟩):=by simp[World.cell?,hc0]
   have d1:w2.cell? ⟨wr.heap.size,1,none⟩=some (.string ⟨gv.toArray⟩):=by simp[World.cell?,hc0]
   have hne:(Value.slice a n c).ownBlock≠some wr.heap.size:=fun e=>by have:=(HO.out.lt _ e).2;omega
   have HNE:=ah hne;have HO2:=ah (dV HO.out hb1);have HB2:=ah (HB.out.trans (hb1.mono HB.out.size));have aeG:=ah (CY a n c K wr.heap.size gk w.heap.size w2 HO2.out HB2.out.size hnb d0 hne);clear hb1 hc0 h0 h1 hne;by_cases hgv:gv=[]
   .have hgb:gv.isEmpty=true:=by rw[hgv];rfl
    have HK2:Hid (Plain.merge s.glob (more.take (k+1))=K.filter (stays gk)):=ah (by rw[HMT.out];unfold Plain.F8;rw[if_pos hgv,Qq];rfl);clear hgv;go_wp2_with (go_at_call 186;refine(aeG.out).mono ?_;rintro e w3 ⟨a2,m2,c2,rfl,ho2,hg2,aem,hle2⟩;have HO3:=ah ho2;have HB3:=ah (HB2.out.grown hg2 HB2.out.size fun k hk=>(HO2.out.lt k hk).1);have f0:=hg2.cell d0 (fun e=>HNE.out e.symm);have f1:=hg2.cell d1 (fun e=>HNE.out e.symm);clear ho2 hg2 aem)
    exact⟨⟨k+1,a2,m2,c2,by omega,by go_num,rfl,ah (by rw[HK2.out];exact HO3.out),HB3⟩,by simp[intOf];omega⟩
   .have hgb:gv.isEmpty=false:=by simpa using hgv
    have HK2:Hid (Plain.merge s.glob (more.take (k+1))=K.filter (stays gk)++[(gk,gv)]):=ah (by rw[HMT.out];unfold Plain.F8;rw[if_neg hgv];rfl);clear hgv;go_wp2_with (first|(go_at_call 186;refine(aeG.out).mono ?_;rintro e w3 ⟨a2,m2,c2,rfl,ho2,hg2,aem,hle2⟩;have HO3:=ah ho2;have HB3:=ah (HB2.out.grown hg2 HB2.out.size fun k hk=>(HO2.out.lt k hk).1);have f0:=hg2.cell d0 (fun e=>HNE.out e.symm);have f1:=hg2.cell d1 (fun e=>HNE.out e.symm);clear ho2 hg2 aem)|(at_builtin;refine nJ rfl _ _ 82 rfl w.heap.size 160 _ 2 32 underlying82 EF rfl (by decide) (by decide) rfl (Qn HO3.out (gk,gv)) rfl (abF w3 (gk,gv)) (sK [(gk,gv)]) (by omega) (by have:=HB3.out.size;simp;omega) ?_;intro a4 c4 w4 Rs hg4;have HO4:=ah Rs;have QF:=ah (below_app (HB3.out.alloc HB3.out.size (.cells #[.string ⟨gk.toArray⟩,.string ⟨gv.toArray⟩] 160)) (Qn HO3.out (gk,gv)) hg4 (aY _) (by have:=HB3.out.size;simp;omega));clear Rs hg4))
    refine⟨⟨k+1,a4,m2+1,c4,by omega,by go_num,rfl,ah ?_,QF⟩,by simp[intOf];omega⟩;rw[HK2.out,List.flatMap_append];exact HO4.out
  .obtain rfl:k=mn:=by omega
   have hki:¬ (k:Int)<k:=by omega
   have ho:=HO.out;rw[MU (by rw[HML.out];exact aY _)] at ho;have hbd:=HBD.out k (by rw[HML.out];exact aY _);rw[MU (by rw[HML.out];exact aY _)] at hbd;have hnl:=(mR ho).len;have hnb:n<=4194304:=by have:=hbd.1;omega
   have HOO:=ah ho;have hwk:=HW.out.below HB.out;have hcp:wr.cell? ⟨C.wb,2,none⟩=some (.int .i64 C.lim.iP):=hwk.cell 2;have HCP:=ah hcp;have HWT:=ah (fun w' (hb:Below w.heap.size w w') (hp:uD w' a n c (Plain.merge s.glob more))=>Eu a n c (Plain.merge s.glob more) w' hp (hC.pw.below (HW.out.below hb).bJ) hnb hbd.2);have HKR:Hid (BI C A o s more w=BI C A o s more w):=ah rfl;generalize hKK:Plain.merge s.glob more=K at *
   have HKK:=ah hKK;have hps:=Plain.jD K;generalize hPP:Plain.iZ K=T at *
   have HPP:=ah hPP;clear ho hbd hnl hKK hPP hwk;go_upto_region 8 with fail
   go_region_held3 (fun w'=>w'.cell? ⟨C.wb,2,none⟩=some (.int .i64 C.lim.iP)) (first|exact HCP.out|exact aez.out) (first|(go_at_call 151;(refine(HWT.out _ (Below.seq HB.out ((Below.refl wr.heap.size wr).drew)) (mR (dV HOO.out ((Below.refl wr.heap.size wr).drew)))).mono ?_);rintro e7 w7 ⟨rfl,mq⟩;have hd7:=Below.seq ((Below.refl wr.heap.size wr).drew) mq;have aez:=ah (Below.keeps hd7 _ _ HCP.out);have MX:=ah (Below.seq HB.out hd7);have HO7:=ah (dV HOO.out hd7);clear mq hd7))
   have JK:=ah (HW.out.below MX.out);clear HWT HKR HCP aez;by_cases hT:C.lim.iP<T
   .go_wp2_with (go_at_call 112;refine(dF _ _ _).mono ?_;rintro e w5 ⟨rfl,rfl⟩)
    refine⟨rfl,?_⟩;unfold BI;rw[HKK.out,HPP.out,if_pos hT];exact⟨rfl,JK.out,MX.out⟩
   .have hx1:w7.cell? ⟨C.wb,8,none⟩=some (.slice A.ga A.gn A.gc):=JK.out.cell 8;have hx2:=aS JK.out.row 8;go_wp2
    go_end0;unfold BI;rw[HKK.out,HPP.out,if_neg (by omega)];refine⟨rfl,⟨_,JK.out.agT hC (HO7.out.mono HW.out.bJ.size) (by rw[HPP.out];omega)⟩,?_⟩;exact(gL.of MX.out).grow (aD _ _ _ _) (.inl rfl)
end St
end
section
open Go.Maps (Keyed)
namespace St
open Gr (aZ aD aN aO aX aG aS aU)
section
variable {P:Program}{ops:Array Oper}{rest:List Oper}{o:Oper}{a:Act}{w:World}{Q:Exit->Act->World->Prop}
theorem DK(hgd:o.guard=none)(t:TypeId)(x:Operand)(ho:o.op=.sliceToArrayPointer t x){ad:Option Addr}{n c:Nat}(hx:a.eval x=.slice ad n c)(m:Nat)(e:TypeId)(ht:P.underlying t=some (.array m e))(hm:m<=n)(hk:wpList P ops Q rest (a.put o.dst (.pointer ad)) w):wpList P ops Q (o::rest) a w:=by
 refine bI hgd _ w ?_ hk;have h:¬ n<m:=by omega
 simp[execOp,ho,hx,Instr.arrayAt,run_underlying ht,h,Result.andThen]
theorem qX(hgd:o.guard=none)(t:TypeId)(x:Operand)(ho:o.op=.load t x){ad:Option Addr}{n c:Nat}{l:List UInt8}(hx:a.eval x=.pointer ad)(hb:Bs w ad n c l)(hn:0<n)(e:TypeId)(ht:P.underlying t=some (.array n e))(hi:(P.info? t).map (·.size)=some n)(hk:wpList P ops Q rest (a.put o.dst (.agg (aL l))) w):wpList P ops Q (o::rest) a w:=by
 have hl:=hb.len;obtain⟨b,off,rfl,_⟩:=hb.at 0 hn;refine wpList_load_mid hgd t x ho b off hx (l.map jJ) (.array n e) ?_ ht rfl (by rw[hi];simp[hl]) hk;intro j v hj;obtain⟨b',off',he,hc⟩:=hb.2.2.2.1.at j v hj;simp only[Ba,Addr.mk.injEq,and_true] at he;obtain⟨rfl,rfl⟩:=he;exact hc
end
theorem Wk.afi{C:Cn}{A:Ad}{o:Nat}{s:bW}{w:World}(hC:C.Ok)(h:Wk C A o s w)(o':Nat)(ho:o'<=C.dn):Wk C A o' s (w.setCell ⟨C.wb,3,none⟩ (.int .i64 o')):=by
 obtain⟨h1,h2,h3,h4,_⟩:=h.set hC 3 (.int .i64 o')
 exact⟨h1,h2,h3 h.glob,h3 h.loc,h4,h.gb,h.lb,h.fit,ho⟩
def W9(C:Cn)(A:Ad)(o:Nat)(s:bW)(w:World)(e:Ending)(w':World):Prop :=((Plain.finish C.data o s).1=0/\e=.returned (.tuple #[])/\Wk C A (o+1024) s w'\/(Plain.finish C.data o s).1≠0/\e=.panicked (mK (Plain.finish C.data o s).1)/\Wk C A o s w')/\gL C w w'
theorem N8(C:Cn)(hC:C.Ok)(A:Ad)(o:Nat)(s:bW)(w:World)(h:Wk C A o s w)(ho:o+512<=C.dn):Calls qp0 114 #[.pointer (some ⟨C.wb,0,none⟩)] w (W9 C A o s w):=by
 have hdn:=hC.dn;have hl:=hC.dat.len;have hcap:=hC.dat.cap;have Kr:=ah (zT C A o s w h);have h3:w.cell? ⟨C.wb,3,none⟩=some (.int .i64 o):=h.cell 3;have hc0:w.cell? ⟨C.wb,0,none⟩=some (.slice C.da C.dn C.dc):=h.cell 0;have hbase:=h.bJ.size;have HW:=ah h;generalize hr:Plain.finish C.data o s=r;have HR:=ah hr;unfold Plain.finish at hr;rw[hl] at hr
 cases hp:Plain.pend s with
 | true =>
  rw[hp] at Kr;rw[hp,if_pos rfl] at hr;subst hr;clear h hp;go_enter func114,ntmps114;go_wp2_with (first|(go_at_call 147;refine(Kr.out).mono ?_;rintro e w5 ⟨rfl,rfl⟩)|(go_at_call 112;refine(dF _ _ _).mono ?_;rintro e w5 ⟨rfl,rfl⟩))
  refine⟨rfl,?_⟩;unfold W9;rw[HR.out];exact⟨.inr ⟨(by decide:(77:Int)≠0),rfl,HW.out⟩,gL.refl _ _⟩
 | false =>
  rw[hp] at Kr;rw[hp,if_neg (by decide)] at hr;by_cases h2:C.dn-(o+512)<512
  .rw[if_pos h2] at hr;subst hr;have h2i:(C.dn:Int)-((o:Int)+512)<512:=by omega
   clear h hp h2;go_enter func114,ntmps114;go_wp2_with (first|(go_at_call 147;refine(Kr.out).mono ?_;rintro e w5 ⟨rfl,rfl⟩)|(go_at_call 112;refine(dF _ _ _).mono ?_;rintro e w5 ⟨rfl,rfl⟩))
   refine⟨rfl,?_⟩;unfold W9;rw[HR.out];exact⟨.inr ⟨(by decide:(71:Int)≠0),rfl,HW.out⟩,gL.refl _ _⟩
  .rw[if_neg h2] at hr;have h2i:¬ (C.dn:Int)-((o:Int)+512)<512:=by omega
   obtain⟨a',e1,e2⟩:=xk (hC.bs h.bJ) (o+512) (o+1024) (by omega) (by omega);have e3:o+1024-(o+512)=512:=by omega
   rw[e3] at e1 e2;have UU:=ah e1;have HE2:=ah e2;have hlen:(eH C.data (o+512) (o+1024)).length=512:=by rw[tQ _ _ _ (by omega)];omega
   have HZ:=ah (CK _ hlen w);generalize eH C.data (o+512) (o+1024)=D at *
   have HSB:=ah (show(qp0.info? 70).map (·.size)=some 512 by kernel_rfl);clear h hp h2 e1 e2 e3;by_cases hz:D=cZ
   .rw[if_neg (by simpa using hz)] at hr;subst hr;have hd:decide (D=cZ)=true:=by simpa using hz
    rw[hd] at HZ;clear hz hd;go_enter func114,ntmps114;go_wp2_with (first|(go_at_call 147;refine(Kr.out).mono ?_;rintro e w5 ⟨rfl,rfl⟩)|(refine kJ rfl 22 _ _ _ rfl underlying22 Ik rfl (o+512) (o+1024) rfl rfl (by omega) (by omega) (by omega) (by omega) ?_;rw[UU.out])|(refine DK rfl 70 _ rfl rfl 512 5 underlying70 (by decide) ?_)|(refine qX rfl 70 _ rfl rfl HE2.out (by decide) 5 underlying70 HSB.out ?_)|(go_at_call 144;refine(HZ.out).mono ?_;rintro e w5 ⟨rfl,hb5⟩;have qZ:=ah (HW.out.below hb5);have HB5:=ah hb5;have hx1:w5.cell? ⟨C.wb,3,none⟩=some (.int .i64 o):=qZ.out.cell 3;have hx2:=aS qZ.out.row 3;clear hb5))
    go_end0;unfold W9;rw[HR.out];have e4:(o:Int)+512+512=((o+1024:Nat):Int):=by omega
    rw[e4];refine⟨.inl ⟨rfl,rfl,qZ.out.afi hC (o+1024) (by omega)⟩,?_⟩;exact(gL.of HB5.out).grow (aD _ _ _ _) (.inl rfl)
   .rw[if_pos hz] at hr;subst hr;have hd:decide (D=cZ)=false:=by simpa using hz
    rw[hd] at HZ;clear hz hd;go_enter func114,ntmps114;go_wp2_with (first|(go_at_call 147;refine(Kr.out).mono ?_;rintro e w5 ⟨rfl,rfl⟩)|(go_at_call 112;refine(dF _ _ _).mono ?_;rintro e w6 ⟨rfl,rfl⟩)|(refine kJ rfl 22 _ _ _ rfl underlying22 Ik rfl (o+512) (o+1024) rfl rfl (by omega) (by omega) (by omega) (by omega) ?_;rw[UU.out])|(refine DK rfl 70 _ rfl rfl 512 5 underlying70 (by decide) ?_)|(refine qX rfl 70 _ rfl rfl HE2.out (by decide) 5 underlying70 HSB.out ?_)|(go_at_call 144;refine(HZ.out).mono ?_;rintro e w5 ⟨rfl,hb5⟩;have qZ:=ah (HW.out.below hb5);have HB5:=ah hb5;clear hb5))
    refine⟨rfl,?_⟩;unfold W9;rw[HR.out];exact⟨.inr ⟨(by decide:(72:Int)≠0),rfl,qZ.out⟩,gL.of HB5.out⟩
end St
end
section
open Go.Maps (Keyed)
namespace St
open Go.ChangeMaps (setBlock heap_setBlock_same heap_setBlock_other)
open Go.MapKept (stamped_empty)
open Gr (aZ aD aN aO aX aG aS aU)
section
variable {κ:Type}{mk:κ->Lit}{P:Program}{k:TypeId}{w:World}{b s:Nat}{f:κ->Option Value}
variable {ops:Array Oper}{rest:List Oper}{o:Oper}{a:Act}{Q:Exit->Act->World->Prop}
theorem qU(hg:o.guard=none)(m:Operand)(t:TypeId)(hop:o.op=Op.call {callee:=Callee.builtin Builtin.clear,args:=#[m],argTypes:=#[t]})(e:TypeId)(ht:P.underlying t=some (.map k e))(hm:a.eval m=.map (some b))(h:Gr.Mp mk P k w b s f)(hK:∀ w',Gr.Mp mk P k w' b 0 (fun _=>none)->w.grownBy w' (some b)->wpList P ops Q rest (a.put o.dst (.tuple #[])) w'):wpList P ops Q (o::rest) a w:=by
 obtain⟨D,⟨es,clock,hb,F,hs,rfl⟩,h2,h3⟩:=h;have hr:(Builtin.clear_ #[t] o.type #[.map (some b)]).run P w=.ok (.tuple #[]) (setBlock w b (.map #[] clock)):=by
  simp[Builtin.clear_,run_underlying ht,MapKept.run_getObj_map hb,MapKept.run_setObj_map _ hb,Result.andThen,setBlock]
 have hgr:w.grownBy (setBlock w b (.map #[] clock)) (some b):=⟨rfl,rfl,rfl,by simp[setBlock],fun i _ hi=>heap_setBlock_other hb _ (fun e=>hi (by rw[e]))⟩;refine bI hg _ (setBlock w b (.map #[] clock)) ?_ (hK _ ?_ hgr)
 .simp[execOp,hop,resolve,invoke,builtin,hm,hr,Result.andThen]
 .exact⟨.map [],⟨#[],clock,heap_setBlock_same hb _,⟨by simp,stamped_empty clock,by simp⟩,aY _,rfl⟩,rfl,fun x=>⟨rfl,fun v hv=>by cases hv⟩⟩
end
theorem Wk.O9{C:Cn}{A:Ad}{o:Nat}{s:bW}{w:World}(hC:C.Ok)(h:Wk C A o s w){a:Option Addr}{n c:Nat}{K:List Pr}(z:Int)(ho:w.ownsRow C.w0.heap.size 160 2 (.slice a n c) n (K.flatMap aR))(hK:JQ K)(hz:0<=z)(hz2:z<=C.lim.iP):Wk C {A with la:=a,ln:=n,lc:=c} o {s with loc:=K,zk:=z} ((w.setCell ⟨C.wb,9,none⟩ (.slice a n c)).setCell ⟨C.wb,10,none⟩ (.int .i64 z)):=by
 have hg1:=aD w C.wb 9 (.slice a n c);have hg2:=aD (w.setCell ⟨C.wb,9,none⟩ (.slice a n c)) C.wb 10 (.int .i64 z);have hg:=hg1.trans hg2;have hr1:=aO h.row (j:=9) (.slice a n c);have hr2:=aO hr1 (j:=10) (.int .i64 z);have hb:Below C.w0.heap.size w ((w.setCell ⟨C.wb,9,none⟩ (.slice a n c)).setCell ⟨C.wb,10,none⟩ (.int .i64 z)):=((Below.refl _ _).setCell hC.wb _).setCell hC.wb _;have hown:∀ {a:Option Addr}{n c:Nat}{l:List Pr},w.ownsRow C.w0.heap.size 160 2 (.slice a n c) n (l.flatMap aR)->((w.setCell ⟨C.wb,9,none⟩ _).setCell ⟨C.wb,10,none⟩ _).ownsRow C.w0.heap.size 160 2 (.slice a n c) n (l.flatMap aR):=fun {a n c l} ho=>aX ho hg (Or.inr (aN ho h.row (by decide)))
 exact⟨h.bJ.trans hb,hr2,hown h.glob,hown ho,Gr.Mp.kept h.long hg (fun e=>hC.ne (pQ e).symm),h.gb,hK,⟨h.fit.1,hz,hz2,h.fit.2.2.2⟩,h.Zv⟩
theorem Wk.other{C:Cn}{A:Ad}{o:Nat}{s:bW}{w w':World}(h:Wk C A o s w){g:Nat}{cs:Array Value}{t:TypeId}(hr:w.heap[g]? = some (.cells cs t))(h1:t≠85)(h2:160≠t)(hB:C.w0.heap.size<=g)(hg:w.grownBy w' (some g)):Wk C A o s w':=by
 have hown:∀ {a:Option Addr}{n c:Nat}{l:List Pr},w.ownsRow C.w0.heap.size 160 2 (.slice a n c) n (l.flatMap aR)->w'.ownsRow C.w0.heap.size 160 2 (.slice a n c) n (l.flatMap aR):=fun {a n c l} ho=>aX ho hg (Or.inr (aN ho hr h2))
 refine⟨h.bJ.trans (Gr.nX hg hB h.bJ.size),aZ h.row hg (fun e=>?_),hown h.glob,hown h.loc,Gr.Mp.kept h.long hg (fun e=>?_),h.gb,h.lb,h.fit,h.Zv⟩
 .have e:=pQ e;rw[<-e,h.row] at hr;simp only[Ba,Obj.cells.injEq] at hr;exact h1 hr.2.1.symm
 .have e:=pQ e;obtain⟨D,⟨es,clock,hb,_⟩,_⟩:=h.long;rw[e,hr] at hb
  cases hb
theorem Jz{w:World}{b s:Nat}{f:UInt8->Option Value}(h:Gr.Mp zG qp0 5 w b s f){g:Nat}{cs:Array Value}{t:TypeId}(hr:w.heap[g]? = some (.cells cs t)):g≠b:=fun e=>by
 obtain⟨D,⟨es,clock,hb,_⟩,_⟩:=h;rw[<-e,hr] at hb
 cases hb
theorem Ip{w:World}{g:Nat}{old:Array Value}{t:TypeId}(h:w.heap[g]? = some (.cells old t))(cs:Array Value):(w.setRow g cs).heap[g]? = some (.cells cs t):=setRow_heap _ _ _ _ _ _ h
theorem qD{w:World}{g:Nat}{old:Array Value}{t:TypeId}(h:w.heap[g]? = some (.cells old t))(cs:Array Value):w.grownBy (w.setRow g cs) (some g) :=⟨rfl,rfl,rfl,by simp,fun k _ hk=>setRow_other w g k cs (fun e=>hk (by rw[e]))⟩
theorem KU(s:bW):gY (Plain.clean s)=fun _=>none:=by
 funext x;unfold gY Plain.clean;simp
theorem Wk.clear{C:Cn}{A:Ad}{o:Nat}{s:bW}{w w':World}(hC:C.Ok)(h:Wk C A o s w)(hl:s.loc=[])(hz:s.zk=0)(hm:Gr.Mp zG qp0 5 w' C.mb 0 (fun _=>none))(hg:w.grownBy w' (some C.mb)):Wk C A o (Plain.clean s) w':=by
 have hb:Below C.w0.heap.size w w':=Gr.nX hg hC.mb h.bJ.size;have hown:∀ {a:Option Addr}{n c:Nat}{l:List Pr},w.ownsRow C.w0.heap.size 160 2 (.slice a n c) n (l.flatMap aR)->w'.ownsRow C.w0.heap.size 160 2 (.slice a n c) n (l.flatMap aR):=fun {a n c l} ho=>aX ho hg (Or.inr (fun e=>(Gr.Mp.yU h.long ho) e.symm))
 have hlo:=hown h.loc;rw[hl] at hlo;refine⟨h.bJ.trans hb,?_,hown h.glob,hlo,?_,h.gb,JQ.nil,?_,h.Zv⟩
 .have:=aZ h.row hg (fun e=>hC.ne (pQ e));unfold Plain.clean VH;unfold VH at this;rw[hz] at this;exact this
 .rw[KU];exact hm
 .exact Plain.Es hC.lim h.fit
theorem KQ(l:List UInt8):0<=(Plain.decimal l).1/\(Plain.decimal l).1<=9223372036854775807:=by
 unfold Plain.decimal;split
 .exact⟨by decide,by decide⟩
 .split
  .constructor <;> simp only <;> omega
  .exact⟨by decide,by decide⟩
theorem MH(h:Hd)(g l:List Pr)(ln lr:List UInt8)(h0:0<=h.size)(h1:h.size<=9223372036854775807):0<=(Plain.gG h g l ln lr).2.1/\(Plain.gG h g l ln lr).2.1<=9223372036854775807:=by
 have hn:0<=(Plain.xq g l yE h.size 9223372036854775807).1/\(Plain.xq g l yE h.size 9223372036854775807).1<=9223372036854775807:=by
  unfold Plain.xq;split
  .exact⟨h0,h1⟩
  .exact KQ _
 unfold Plain.gG;split
 .exact⟨U4 _,by decide⟩
 .split
  .exact⟨U4 _,by decide⟩
  .split
   .split
    .exact⟨U4 _,by decide⟩
    .simp only
     split
     .exact hn
     .exact⟨U4 _,by decide⟩
   .exact⟨U4 _,by decide⟩
