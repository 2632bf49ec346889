/- J15 -/
import Derived.Test.YtdbgldieilgnmaaGreatDoorHdrGood
import Derived.Test.YtdbgldieilgnmaaGreatDoorHdrMkWalk
set_option linter.unusedVariables false
set_option linter.unusedSimpArgs false
set_option maxHeartbeats 8000000
set_option maxRecDepth 100000
namespace Go.Proofs.YtdbgldieilgnmaaGreatDoor
open Go.Proofs.Tryz
open Go.Proofs.Tryz renaming prog → qp0
open Go.ChangeShapes Go.WideShapes Go.ChangeAt Go.RowKit
theorem R9(l:List UInt8)(hl:l.length=512)(w:World)(ev:Value)(hE:eO w ev):Calls qp0 113 #[.agg (aL l)] w fun e w'=>e=.returned (Km (Plain.hread l))/\Below w.heap.size w w':=by
 by_cases hz:l=cZ
 .exact Lx l hl w ev hE (.inl hz)
 .by_cases hs:Plain.sealed l=false
  .exact Lx l hl w ev hE (.inr hs)
  .exact Ng l hl w ev hE hz (by simpa using hs)
section
section
variable {P:Program}{ops:Array Oper}{rest:List Oper}{o:Oper}{a:Act}{w:World}{Q:Exit->Act->World->Prop}
end
structure HB(w:World)(x:Hd)(wr:World):Prop where
 bJ:Below w.heap.size w wr
 row:wr.heap[w.heap.size]? = some (.cells (dQ x) 74 (0,0))
end
def ru(e:En)(a:Option Addr)(n c:Nat):Array Value:=#[.int .i64 e.kind,.string ⟨e.name.toArray⟩,.string ⟨e.link.toArray⟩,.int .i64 e.mode,.int .i64 e.uid,.int .i64 e.gid,.string ⟨e.user.toArray⟩,.string ⟨e.group.toArray⟩,.int .i64 e.sec,.int .i64 e.nano,.slice a n c]
section
abbrev EU:=En×(Option Addr×Nat×Nat)
def sS(x:EU):Array Value:=ru x.1 x.2.1 x.2.2.1 x.2.2.2
def fG(x:EU):List Value:=(sS x).toList
theorem iy(x:EU):(fG x).length=11:=rfl
structure Qg(w:World)(a:Option Addr)(n c:Nat)(S:List EU):Prop where
 sl:wh w 11 a n c (S.flatMap fG)
 dat:∀ x∈S,Bs w x.2.1 x.2.2.1 x.2.2.2 x.1.data
theorem Qg.keep{w w':World}{a:Option Addr}{n c:Nat}{S:List EU}(h:Qg w a n c S)(k:Keeps w w'):Qg w' a n c S:=⟨k.sl h.sl,fun x hx=>k.bs (h.dat x hx)⟩
theorem Qg.below{w w':World}{a:Option Addr}{n c:Nat}{S:List EU}(h:Qg w a n c S)(k:Below w.heap.size w w'):Qg w' a n c S:=h.keep (Below.keeps k)
theorem Qg.len{w:World}{a:Option Addr}{n c:Nat}{S:List EU}(h:Qg w a n c S):S.length=n:=by have:=h.sl.1;rw[Kh iy] at this;omega
theorem Qg.cap{w:World}{a:Option Addr}{n c:Nat}{S:List EU}(h:Qg w a n c S):n<=c:=h.sl.2.1
theorem Qg.max{w:World}{a:Option Addr}{n c:Nat}{S:List EU}(h:Qg w a n c S):c<=9223372036854775807:=h.sl.2.2.1
def En.zero:En:=⟨0,[],[],0,0,0,[],[],0,0,[]⟩
def Zk:EU:=(En.zero,(none,0,0))
theorem Qg.at{w:World}{a:Option Addr}{n c:Nat}{S:List EU}(h:Qg w a n c S)(k:Nat)(hk:k<n):∃ b off,a=some ⟨b,off,none⟩/\w.rangeAt b (off+k*11) (fG (S.getD k Zk)):=by
 have hl:=h.len;have hk':k<S.length:=by omega
 have e:S.getD k Zk=S[k]:=by simp[List.getD,kM hk']
 rw[e];have h0:=yx iy S k 0 hk' (by omega);obtain⟨b,off,ha,_⟩:=h.sl.2.2.2.1.at _ ((fG S[k])[0]'(by rw[iy];omega)) (by rw[h0];exact kM (by rw[iy];omega));refine⟨b,off,ha,fun j v hj=>?_⟩;have ahj:j<11:=by have:=(qbl.1 hj).1;rw[iy] at this;exact this
 have hj':=yx iy S k j hk' ahj;obtain⟨b',off',ha',hc⟩:=h.sl.2.2.2.1.at _ v (by rw[hj'];exact hj);rw[ha] at ha';simp only[Ba,Addr.mk.injEq,and_true] at ha';obtain⟨rfl,rfl⟩:=ha';rw[Zu];exact hc
theorem Qg.acD{w:World}{a:Option Addr}{n c:Nat}{S:List EU}(h:Qg w a n c S)(k:Nat)(hk:k<n):Bs w (S.getD k Zk).2.1 (S.getD k Zk).2.2.1 (S.getD k Zk).2.2.2 (S.getD k Zk).1.data:=by
 have hk':k<S.length:=by have:=h.len;omega
 have e:S.getD k Zk=S[k]:=by simp[List.getD,kM hk']
 rw[e];exact h.dat _ (VE hk')
theorem aeg(S:List EU):∀ u∈S.flatMap fG,u.oneCell'=true:=by
 intro u hu;obtain⟨x,_,hx⟩:=List.mem_flatMap.1 hu;simp only[fG,sS,ru,rD,xS,or_false] at hx;rcases hx with rfl|rfl|rfl|rfl|rfl|rfl|rfl|rfl|rfl|rfl|rfl <;> rfl
def fZ:Array Value:=#[.int .i64 0,.string ⟨#[]⟩,.string ⟨#[]⟩,.int .i64 0,.int .i64 0,.int .i64 0,.string ⟨#[]⟩,.string ⟨#[]⟩,.int .i64 0,.int .i64 0,.slice none 0 0]
theorem FW:(qp0.info? 42).map (fun i=>(i.zero,i.size,i.bytes))=some (some (.agg fZ),11,136):=by kernel_rfl
section
variable {P:Program}
theorem cK{ops:Array Oper}{rest:List Oper}{op:Oper}{a:Act}{w:World}{Q:Exit->Act->World->Prop}(hgd:op.guard=none)(ty:TypeId)(x:Operand)(ho:op.op=.load ty x)(b o:Nat)(hx:a.eval x=.pointer (some ⟨b,o,none⟩))(cs:Array Value)(d:TypeDesc)(hc:w.rangeAt b o cs.toList)(hu:P.underlying ty=some d)(hd:d.isRow=true)(hi:(P.info? ty).map (·.size)=some cs.toList.length)(h:wpList P ops Q rest (a.put op.dst (.agg cs)) w):wpList P ops Q (op::rest) a w :=wpList_load_mid hgd ty x ho b o hx cs.toList d hc hu hd hi (by rw[qbW];exact h)
end
def iw(w:World)(B:Nat)(x:EU):Prop:=w.ownsRow B 5 1 (.slice x.2.1 x.2.2.1 x.2.2.2) x.2.2.1 (x.1.data.map jJ)
end
section
namespace Ov
open Gr (aZ aD aN aO aX aG aS aU)
theorem bS{P:Program}{fn:Func}{p q r:Tmp}{ty:TypeId}(h:fn.results=#[.cell p ty,.tmp q,.tmp r])(tmps:Array Value)(w:World)(g:Nat)(t:TypeId)(cs:Array Value)(fr:Nat×Nat)(d:TypeDesc)(v u:Value)(hp:tmps.getD p undef=.pointer (some ⟨g,0,none⟩))(hq:tmps.getD q undef=v)(hr:tmps.getD r undef=u)(hg:w.heap[g]? = some (.cells cs t fr))(hu:P.underlying ty=some d)(hd:(match d with|.struct _|.array _ _=>true|_=>false)=true)(hi:(P.info? ty).map (·.size)=some cs.size):(results fn tmps).run P w=.ok (.tuple #[.agg cs,v,u]) w:=by
 have hp':tmps[p]?.getD undef=.pointer (some ⟨g,0,none⟩):=by simpa using hp
 have hq':tmps[q]?.getD undef=v:=by simpa using hq
 have hr':tmps[r]?.getD undef=u:=by simpa using hr
 simp[results,h,hp',hq',hr',asAddr,run_loadVar_row w g t ty cs fr d hg hu hd hi]
structure IU(w:World)(H:Array Value)(z:Array Value)(wr:World):Prop where
 bJ:Below w.heap.size w wr
 rh:wr.heap[w.heap.size]? = some (.cells H 74)
 rr:wr.heap[w.heap.size+1]? = some (.cells z 42)
theorem IU.lt{w wr:World}{H:Array Value}{z:Array Value}(s:IU w H z wr):w.heap.size+1<wr.heap.size:=(fT.1 s.rr).1
theorem IU.keep{w wr w':World}{H:Array Value}{z:Array Value}(s:IU w H z wr)(k:Below (w.heap.size+2) wr w'):IU w H z w' :=⟨s.bJ.trans (k.mono (by omega)),by rw[k.block _ (by omega)];exact s.rh,by rw[k.block _ (by omega)];exact s.rr⟩
theorem IU.below{w wr w':World}{H:Array Value}{z:Array Value}(s:IU w H z wr)(k:Below wr.heap.size wr w'):IU w H z w':=s.keep (k.mono (by have:=s.lt;omega))
theorem IU.new(w:World)(H:Array Value):IU w H fZ ((w.alloc (.cells H 74)).alloc (.cells fZ 42)) :=⟨((Below.refl _ _).alloc (aY _) _).alloc (by simp) _,heap_alloc2_old _ _ _,heap_alloc2_new _ _ _⟩
theorem vD(e:En)(a:Option Addr)(n c:Nat):(qp0.info? 42).map (·.size)=some (ru e a n c).size:=by
 show _=some 11
 kernel_rfl
theorem Eo:(qp0.info? 42).map (·.size)=some fZ.size:=by
 show _=some 11
 kernel_rfl
theorem lq(e:En)(a:Option Addr)(n c:Nat):∀ u∈(ru e a n c).toList,u.oneCell'=true:=by
 intro u hu;simp only[ru,rD,xS,or_false] at hu;rcases hu with rfl|rfl|rfl|rfl|rfl|rfl|rfl|rfl|rfl|rfl|rfl <;> rfl
theorem Ck:∀ u∈fZ.toList,u.oneCell'=true:=lq ⟨0,[],[],0,0,0,[],[],0,0,[]⟩ none 0 0
def apW(w:World)(H:Array Value):World:=(w.alloc (.cells H 74)).alloc (.cells fZ 42)
def apV(r:En×Int×Int):Value:=.tuple #[.agg (ru r.1 none 0 0),.int .i64 r.2.1,.int .i64 r.2.2]
theorem Pe(h:Hd)(ag al:Option Addr)(ng cg nl cl:Nat)(ln lr:List UInt8)(w:World)(ht:h.ty.toNat<48\/54<h.ty.toNat):Calls qp0 152 #[.agg (dQ h),.slice ag ng cg,.slice al nl cl,.string ⟨ln.toArray⟩,.string ⟨lr.toArray⟩] w fun e w'=>e=.returned (apV (En.none,0,73))/\Below w.heap.size w w':=by
 have HA:Hid (IU w (dQ h) fZ (apW w (dQ h))):=ah (IU.new w (dQ h));have HO:=ah (jP h);have HI:=ah (mo h);have hx7:(dQ h)[7]? = some (.int .u8 (h.ty.toNat:Int)):=rfl;have hb:=h.ty.toNat_lt;generalize hty:(h.ty.toNat)=ty at *
 generalize dQ h=H at *
 go_enter func152,ntmps152;go_upto_region 1 with fail
 change Code.wp _ _ _ _ (apW w H)
 generalize apW w H=wa at *
 have h7:wa.cell? ⟨w.heap.size,7,none⟩=some (.int .u8 (ty:Int)):=by rw[aG HA.out.rh];exact hx7
 have hZ:=ah Eo;have hZO:=ah Ck;rcases ht with ht|ht
 .have t1:(ty:Int)<48:=by omega
  go_upto_region 2 with fail
  go_wp2_with (with_reducible refine wpList_store_row rfl 42 _ _ rfl (w.heap.size+1) rfl fZ rfl fZ 42 HA.out.rr rfl hZ.out hZO.out ?_)
  exact bodyPost_ret (bS rfl _ _ (w.heap.size+1) 42 fZ (0,0) _ _ _ rfl rfl rfl (setRow_heap _ _ _ _ _ _ HA.out.rr) underlying42 rfl hZ.out) rfl ⟨rfl,Below.setRow HA.out.bJ (by omega) _⟩
 .have t1:¬ (ty:Int)<48:=by omega
  have t2:(54:Int)<ty:=by omega
  go_upto_region 2 with fail
  go_wp2_with (with_reducible refine wpList_store_row rfl 42 _ _ rfl (w.heap.size+1) rfl fZ rfl fZ 42 HA.out.rr rfl hZ.out hZO.out ?_)
  exact bodyPost_ret (bS rfl _ _ (w.heap.size+1) 42 fZ (0,0) _ _ _ rfl rfl rfl (setRow_heap _ _ _ _ _ _ HA.out.rr) underlying42 rfl hZ.out) rfl ⟨rfl,Below.setRow HA.out.bJ (by omega) _⟩
theorem Il(h:Hd)(ag al:Option Addr)(ng cg nl cl:Nat)(g l:List Pr)(ln lr:List UInt8)(w:World)(hg:uD w ag ng cg g)(hl:uD w al nl cl l)(h1:48<=h.ty.toNat)(h2:h.ty.toNat<=54)(hs:(Plain.sparse g||Plain.sparse l)=true):Calls qp0 152 #[.agg (dQ h),.slice ag ng cg,.slice al nl cl,.string ⟨ln.toArray⟩,.string ⟨lr.toArray⟩] w fun e w'=>e=.returned (apV (En.none,0,61))/\Below w.heap.size w w':=by
 have HA:Hid (IU w (dQ h) fZ (apW w (dQ h))):=ah (IU.new w (dQ h));have HO:=ah (jP h);have HI:=ah (mo h);have hx7:(dQ h)[7]? = some (.int .u8 (h.ty.toNat:Int)):=rfl;have hb:=h.ty.toNat_lt;generalize hty:(h.ty.toNat)=ty at *
 generalize dQ h=H at *
 have HSG:=ah (fun wr (hb:Below w.heap.size w wr)=>mH ag ng cg g wr (Below.Sq hb hg));have HSL:=ah (fun wr (hb:Below w.heap.size w wr)=>mH al nl cl l wr (Below.Sq hb hl));clear hg hl;generalize Plain.sparse g=sg at *
 generalize Plain.sparse l=sl at *
 go_enter func152,ntmps152;go_upto_region 1 with fail
 change Code.wp _ _ _ _ (apW w H)
 generalize apW w H=wa at *
 have h7:wa.cell? ⟨w.heap.size,7,none⟩=some (.int .u8 (ty:Int)):=by rw[aG HA.out.rh];exact hx7
 have hZ:=ah Eo;have hZO:=ah Ck;have t1:¬ (ty:Int)<48:=by omega
 have t2:¬ (54:Int)<ty:=by omega
 cases sg with
 | true =>
  go_upto_region 4 with(go_at_call 188;(with_reducible refine(HSG.out _ HA.out.bJ).mono ?_);rintro e w2 ⟨rfl,hb2⟩;have HA2:=ah (HA.out.below hb2);clear hb2)
  go_wp2_with (with_reducible refine wpList_store_row rfl 42 _ _ rfl (w.heap.size+1) rfl fZ rfl fZ 42 HA2.out.rr rfl hZ.out hZO.out ?_)
  exact bodyPost_ret (bS rfl _ _ (w.heap.size+1) 42 fZ (0,0) _ _ _ rfl rfl rfl (setRow_heap _ _ _ _ _ _ HA2.out.rr) underlying42 rfl hZ.out) rfl ⟨rfl,Below.setRow HA2.out.bJ (by omega) _⟩
 | false =>
  obtain rfl:sl=true:=hs;go_upto_region 4 with(first|(go_at_call 188;(with_reducible refine(HSG.out _ HA.out.bJ).mono ?_);rintro e w2 ⟨rfl,hb2⟩;have HA2:=ah (HA.out.below hb2);clear hb2)|(go_at_call 188;(with_reducible refine(HSL.out _ HA2.out.bJ).mono ?_);rintro e w3 ⟨rfl,hb3⟩;have Bq:=ah (HA2.out.below hb3);clear hb3))
  go_wp2_with (with_reducible refine wpList_store_row rfl 42 _ _ rfl (w.heap.size+1) rfl fZ rfl fZ 42 Bq.out.rr rfl hZ.out hZO.out ?_)
  exact bodyPost_ret (bS rfl _ _ (w.heap.size+1) 42 fZ (0,0) _ _ _ rfl rfl rfl (setRow_heap _ _ _ _ _ _ Bq.out.rr) underlying42 rfl hZ.out) rfl ⟨rfl,Below.setRow Bq.out.bJ (by omega) _⟩
end Ov
end
section
def PrL(l:List Pr):Prop:=∀ p∈l,p.1.length<=140737488351232/\p.2.length<=140737488351232
namespace Ov
open Gr (aZ aD aN aO aX aG aS aU)
theorem Dy(l:List Pr)(k v:List UInt8)(h:Plain.latest l k=some v):∃ p∈l,p.2=v:=by
 induction l using Plain.yA with
 | h0=>cases h
 | h1 l p ih =>
  rw[Plain.ou] at h;split at h
  .exact⟨p,by simp,by simpa using h⟩
  .obtain⟨q,hq,he⟩:=ih h;exact⟨q,by simp[hq],he⟩
theorem zm(g l:List Pr)(hg:PrL g)(hl:PrL l)(k:List UInt8):(Plain.found g l k).1.length<=140737488351232:=by
 unfold Plain.found
 cases h1:Plain.latest l k with
 | some v =>
  obtain⟨p,hp,e⟩:=Dy l k v h1;simp only
  rw[<-e];exact(hl p hp).2
 | none =>
  simp only
  cases h2:Plain.latest g k with
  | some v =>
   obtain⟨p,hp,e⟩:=Dy g k v h2;simp only[Option.getD_some];rw[<-e];exact(hg p hp).2
  | none=>simp
theorem TN(g l:List Pr)(hg:PrL g)(hl:PrL l)(k a b:List UInt8)(ha:a.length<=140737488351232)(hb:b.length<=140737488351232):(Plain.lG g l k a b).length<=140737488351232:=by
 have:=zm g l hg hl k;unfold Plain.lG
 repeat' split
 all_goals assumption
theorem Oz(ty:UInt8)(n:List UInt8):(Plain.oo ty n=4\/Plain.oo ty n=3)↔(ty=49\/ty=50):=by
 unfold Plain.oo;by_cases h0:ty=48
 .subst h0;simp only[if_true];constructor
  .intro h;split at h <;> omega
  .intro h;exact absurd h (by decide)
 .rw[if_neg h0];by_cases h1:ty=49
  .subst h1;simp
  .rw[if_neg h1];by_cases h2:ty=50
   .subst h2;simp
   .rw[if_neg h2];constructor
    .intro h;split at h <;> omega
    .intro h;rcases h with h|h
     .exact absurd h h1
     .exact absurd h h2
theorem tV{w:World}{b:Nat}{cs:Array Value}{t:TypeId}(h:w.heap[b]? = some (.cells cs t)):w.rangeAt b 0 cs.toList:=fun j v hj=>by
 rw[lU,aG h];simpa using hj
def hps(h:Hd):List Pr:=[(kr,h.name),(mF,h.link),(lZ,h.user),(lX,h.group)]
def lps(ln lr:List UInt8):List Pr:=[(kr,ln),(mF,lr)]
def Dc(h:Hd)(g l:List Pr)(ln lr:List UInt8):Nat->Plain.Lv:=EN (EN (EN (EN (fun _=>Plain.JN) 0 (hps h)) 1 g) 2 (lps ln lr)) 3 l
theorem RI(h:Hd)(g l:List Pr)(ln lr k:List UInt8):Plain.JF (Dc h g l ln lr 0) (Dc h g l ln lr 1) (Dc h g l ln lr 2) (Dc h g l ln lr 3) k=Plain.jB h g l ln lr k:=by
 unfold Dc Plain.jB Plain.adw Plain.ad3 hps lps;simp[EN]
def aaP(h:Hd):Array Value:=#[.string ⟨kr.toArray⟩,.string ⟨h.name.toArray⟩,.string ⟨mF.toArray⟩,.string ⟨h.link.toArray⟩,.string ⟨lZ.toArray⟩,.string ⟨h.user.toArray⟩,.string ⟨lX.toArray⟩,.string ⟨h.group.toArray⟩]
def abb(ln lr:List UInt8):Array Value:=#[.string ⟨kr.toArray⟩,.string ⟨ln.toArray⟩,.string ⟨mF.toArray⟩,.string ⟨lr.toArray⟩]
theorem aaA(h:Hd)(w:World):uD (w.alloc (.cells (aaP h) 160)) (some ⟨w.heap.size,0,none⟩) 4 4 (hps h):=pq w 160 2 4 (aaP h) rfl (by unfold maxLen;omega)
theorem aaS(ln lr:List UInt8)(w:World):uD (w.alloc (.cells (abb ln lr) 160)) (some ⟨w.heap.size,0,none⟩) 2 2 (lps ln lr):=pq w 160 2 2 (abb ln lr) rfl (by unfold maxLen;omega)
theorem WK(h:Hd):∀ p∈hps h,p.1.length<=9223372036854775807:=by
 intro p hp;simp only[hps,rD,xS,or_false] at hp;rcases hp with rfl|rfl|rfl|rfl <;> simp[kr,mF,lZ,lX]
theorem Yd(ln lr:List UInt8):∀ p∈lps ln lr,p.1.length<=9223372036854775807:=by
 intro p hp;simp only[lps,rD,xS,or_false] at hp;rcases hp with rfl|rfl <;> simp[kr,mF]
structure Lt(w:World)(H z:Array Value)(tb rb cap:Nat)(B:Nat->Nat)(m:Nat->Plain.Lv)(N:Nat)(wr:World):Prop where
 ap:IU w H z wr
 tab:Tab wr tb rb cap B m N
 lo:∀ j,j<4->w.heap.size+2<=B j
theorem Lt.below{w wr w':World}{H z:Array Value}{tb rb cap N:Nat}{B:Nat->Nat}{m:Nat->Plain.Lv}(h:Lt w H z tb rb cap B m N wr)(k:Below wr.heap.size wr w'):Lt w H z tb rb cap B m N w':=⟨h.ap.below k,h.tab.below k,h.lo⟩
theorem Lt.turn{w wr w':World}{H z:Array Value}{tb rb cap N N':Nat}{B:Nat->Nat}{m m':Nat->Plain.Lv}(h:Lt w H z tb rb cap B m N wr)(ht:Tab w' tb rb cap B m' N')(hn:∀ b0,(∀ j,j<4->b0<=B j)->Tn b0 wr w'):Lt w H z tb rb cap B m' N' w' :=⟨h.ap.keep (hn _ h.lo).bJ,ht,h.lo⟩
structure Le(w:World)(H z:Array Value)(tb rb cap:Nat)(B:Nat->Nat)(m:Nat->Plain.Lv)(N ge:Nat)(C:Array Value)(wr:World):Prop where
 lt:Lt w H z tb rb cap B m N wr
 row:wr.heap[ge]? = some (.cells C 42)
 lo:w.heap.size+2<=ge
 n1:tb<ge
 n2:rb<ge
 n3:∀ j,j<4->B j<ge
theorem Le.new{w wr:World}{H z:Array Value}{tb rb cap N:Nat}{B:Nat->Nat}{m:Nat->Plain.Lv}(h:Lt w H z tb rb cap B m N wr)(C:Array Value):Le w H z tb rb cap B m N wr.heap.size C (wr.alloc (.cells C 42)) :=⟨h.below ((Below.refl _ _).alloc (aY _) _),JL,h.ap.lt,World.block_lt_of_cell? (w:=wr) (a:=⟨tb,0,none⟩) h.tab.hd,World.block_lt_of_cell? (w:=wr) (a:=⟨rb,0,none⟩) (h.tab.row 0 (by omega)),fun j hj=>h.tab.lt j hj⟩
theorem Le.below{w wr w':World}{H z:Array Value}{tb rb cap N ge:Nat}{B:Nat->Nat}{m:Nat->Plain.Lv}{C:Array Value}(h:Le w H z tb rb cap B m N ge C wr)(k:Below wr.heap.size wr w'):Le w H z tb rb cap B m N ge C w' :=⟨h.lt.below k,aU h.row k,h.lo,h.n1,h.n2,h.n3⟩
theorem Le.set{w wr:World}{H z:Array Value}{tb rb cap N ge:Nat}{B:Nat->Nat}{m:Nat->Plain.Lv}{C:Array Value}(h:Le w H z tb rb cap B m N ge C wr)(j:Nat)(v:Value):Le w H z tb rb cap B m N ge (C.setIfInBounds j v) (wr.setCell ⟨ge,j,none⟩ v):=by
 have hg:=aD wr ge j v;have hb:Below (w.heap.size+2) wr (wr.setCell ⟨ge,j,none⟩ v):=(Below.refl _ _).setCell h.lo v;refine⟨⟨h.lt.ap.keep hb,⟨?_,fun i hi=>?_,fun i hi=>?_,h.lt.tab.inj,h.lt.tab.c4,h.lt.tab.cm⟩,h.lt.lo⟩,aO h.row v,h.lo,h.n1,h.n2,h.n3⟩
 .exact hg.cell h.lt.tab.hd (fun e=>by have:=h.n1;have:=pQ e;simp only at this;omega)
 .exact hg.cell (h.lt.tab.row i hi) (fun e=>by have:=h.n2;have:=pQ e;simp only at this;omega)
 .obtain⟨s,h1,h2⟩:=h.lt.tab.lv i hi;exact⟨s,h1,Gr.Mp.kept h2 hg (fun e=>by have:=h.n3 i hi;have:=pQ e;omega)⟩
theorem acK(t:Int×Int):(aQ t).all (·.oneCell')=true:=by
 simp[aQ];exact⟨rfl,rfl⟩
theorem Le.Vd{w wr:World}{H z:Array Value}{tb rb cap N ge:Nat}{B:Nat->Nat}{m:Nat->Plain.Lv}{e:En}{a:Option Addr}{n c:Nat}(h:Le w H z tb rb cap B m N ge (ru e a n c) wr):wr.there ge 8 2:=fun j hj=>by
 refine⟨?_,aS h.row _⟩;rw[aG h.row];rcases j with _|_|j
 .rfl
 .rfl
 .omega
theorem Le.time{w wr:World}{H z:Array Value}{tb rb cap N ge:Nat}{B:Nat->Nat}{m:Nat->Plain.Lv}{e:En}{a:Option Addr}{n c:Nat}(h:Le w H z tb rb cap B m N ge (ru e a n c) wr)(t:Int×Int):Le w H z tb rb cap B m N ge (ru {e with sec:=t.1,nano:=t.2} a n c) (wr.setCells ge 8 (aQ t).toList) :=(h.set 8 (.int .i64 t.1)).set 9 (.int .i64 t.2)
theorem Oj(h:Hd)(ag al:Option Addr)(ng cg nl cl:Nat)(g l:List Pr)(ln lr:List UInt8)(w:World)(ev:Value)(hg:uD w ag ng cg g)(hl:uD w al nl cl l)(h1:48<=h.ty.toNat)(h2:h.ty.toNat<=54)(hs:Plain.sparse g=false)(hs2:Plain.sparse l=false)(hgl:PrL g)(hll:PrL l)(hng:ng<=4194304)(hnl:nl<=4194304)(hhn:h.name.length<=140737488351232)(hln:ln.length<=140737488351232)(hm:uF w)(he:eO w ev):Calls qp0 152 #[.agg (dQ h),.slice ag ng cg,.slice al nl cl,.string ⟨ln.toArray⟩,.string ⟨lr.toArray⟩] w fun e w'=>e=.returned (apV (Plain.gG h g l ln lr))/\Below w.heap.size w w':=by
 have HA:Hid (IU w (dQ h) fZ (apW w (dQ h))):=ah (IU.new w (dQ h));have HO:=ah (jP h);have HI:=ah (mo h);have hx0:(dQ h)[0]? = some (.string ⟨h.name.toArray⟩):=rfl;have hx1:(dQ h)[1]? = some (.string ⟨h.link.toArray⟩):=rfl;have hx2:(dQ h)[2]? = some (.int .i64 h.mode):=rfl;have hx3:(dQ h)[3]? = some (.int .i64 h.uid):=rfl;have hx4:(dQ h)[4]? = some (.int .i64 h.gid):=rfl;have hx5:(dQ h)[5]? = some (.int .i64 h.size):=rfl;have hx6:(dQ h)[6]? = some (.int .i64 h.mtime):=rfl;have hx7:(dQ h)[7]? = some (.int .u8 (h.ty.toNat:Int)):=rfl;have hx8:(dQ h)[8]? = some (.string ⟨h.user.toArray⟩):=rfl;have RN:(dQ h)[9]? = some (.string ⟨h.group.toArray⟩):=rfl;have abP:=ah (fun (wr:World)(tb rb cap:Nat)(B:Nat->Nat)(hT:Tab wr tb rb cap B (fun _=>Plain.JN) 0)=>Br tb rb cap 0 0 B (fun _=>Plain.JN) (some ⟨wr.heap.size,0,none⟩) 4 4 (hps h) _ (hT.below ((Below.refl _ _).alloc (aY _) (.cells (aaP h) 160))) (by decide) (aaA h wr) (by decide) (by decide) (WK h));have abR:=ah (fun (wr:World)(tb rb cap N:Nat)(B:Nat->Nat)(m:Nat->Plain.Lv)(hN:N<=16777216)(hT:Tab wr tb rb cap B m N)=>Br tb rb cap N 2 B m (some ⟨wr.heap.size,0,none⟩) 2 2 (lps ln lr) _ (hT.below ((Below.refl _ _).alloc (aY _) (.cells (abb ln lr) 160))) (by decide) (aaS ln lr wr) (by decide) hN (Yd ln lr))
 have ab5:=ah (fun (wr:World)(hb:Below w.heap.size w wr)(tb rb cap N:Nat)(B:Nat->Nat)(m:Nat->Plain.Lv)(hN:N<=16777216)(hT:Tab wr tb rb cap B m N)=>Br tb rb cap N 1 B m ag ng cg g wr hT (by decide) (Below.Sq hb hg) hng hN (fun p hp=>by have:=(hgl p hp).1;omega));have ab1:=ah (fun (wr:World)(hb:Below w.heap.size w wr)(tb rb cap N:Nat)(B:Nat->Nat)(m:Nat->Plain.Lv)(hN:N<=16777216)(hT:Tab wr tb rb cap B m N)=>Br tb rb cap N 3 B m al nl cl l wr hT (by decide) (Below.Sq hb hl) hnl hN (fun p hp=>by have:=(hll p hp).1;omega));have HSG:=ah (fun wr (hb:Below w.heap.size w wr)=>mH ag ng cg g wr (Below.Sq hb hg));have HSL:=ah (fun wr (hb:Below w.heap.size w wr)=>mH al nl cl l wr (Below.Sq hb hl));rw[hs] at HSG;rw[hs2] at HSL;have HNG:=ah hng;have HNL:=ah hnl;clear hg hl hng hnl;have hb:=h.ty.toNat_lt;have t1:¬ ((h.ty.toNat:Nat):Int)<48:=by omega
 have t2:¬ (54:Int)<((h.ty.toNat:Nat):Int):=by omega
 have HH:Hid (dQ h=dQ h):=ah rfl;generalize hHH:dQ h=H at HA HO HI hx0 hx1 hx2 hx3 hx4 hx5 hx6 hx7 hx8 RN ⊢;have HX0:=ah hx0;have Ta:=ah hx1;have HX2:=ah hx2;have HX3:=ah hx3;have HX4:=ah hx4;have HX5:=ah hx5;have HX6:=ah hx6;have UK:=ah hx8;have HX9:=ah RN;have GY:=ah hx7;clear hx0 hx1 hx2 hx3 hx4 hx5 hx6 hx7 hx8 RN hHH HH;go_enter func152,ntmps152;go_upto_region 1 with fail
 change Code.wp _ _ _ _ (apW w H)
 generalize apW w H=wa at *
 have h7:wa.cell? ⟨w.heap.size,7,none⟩=some (.int .u8 (h.ty.toNat:Int)):=by rw[aG HA.out.rh];exact GY.out
 go_upto_region 6 with(first|(go_at_call 188;(with_reducible refine(HSG.out _ HA.out.bJ).mono ?_);rintro e w2 ⟨rfl,hb2⟩;have HA2:=ah (HA.out.below hb2);clear hb2)|(go_at_call 188;(with_reducible refine(HSL.out _ HA2.out.bJ).mono ?_);rintro e w3 ⟨rfl,hb3⟩;have Bq:=ah (HA2.out.below hb3);clear hb3)|(go_at_call 189;refine(aad _).mono ?_;rintro e w4 ⟨tb,rb,cap,B,rfl,hT,hB,hb4⟩;have HLT:=ah (Lt.mk (Bq.out.below hb4) hT (fun j hj=>tT Bq.out.lt (hB j hj)));clear hT hB hb4))
 have hc0:w4.cell? ⟨w.heap.size,0,none⟩=some (.string ⟨h.name.toArray⟩):=by rw[aG HLT.out.ap.rh];exact HX0.out
 have hc1:w4.cell? ⟨w.heap.size,1,none⟩=some (.string ⟨h.link.toArray⟩):=by rw[aG HLT.out.ap.rh];exact Ta.out
 have hc8:w4.cell? ⟨w.heap.size,8,none⟩=some (.string ⟨h.user.toArray⟩):=by rw[aG HLT.out.ap.rh];exact UK.out
 have hc9:w4.cell? ⟨w.heap.size,9,none⟩=some (.string ⟨h.group.toArray⟩):=by rw[aG HLT.out.ap.rh];exact HX9.out
 have HL0:=ah (abP.out w4 tb rb cap B HLT.out.tab);go_upto_region 7 with(go_at_call 190;refine(HL0.out).mono ?_;rintro e w5 ⟨rfl,hT,hn⟩;have aa6:=ah ((HLT.out.below ((Below.refl _ _).alloc (aY _) (.cells (aaP h) 160))).turn hT hn);clear hT hn)
 clear hc0 hc1 hc8 hc9;have HL1:=ah (ab5.out w5 aa6.out.ap.bJ tb rb cap _ B _ (by omega) aa6.out.tab);go_upto_region 8 with(go_at_call 190;refine(HL1.out).mono ?_;rintro e w6 ⟨rfl,hT,hn⟩;have aei:=ah (aa6.out.turn hT hn);clear hT hn)
 have HL2:=ah (abR.out w6 tb rb cap _ B _ (by have:=HNG.out;omega) aei.out.tab);go_upto_region 9 with(go_at_call 190;refine(HL2.out).mono ?_;rintro e w7 ⟨rfl,hT,hn⟩;have ZJ:=ah ((aei.out.below ((Below.refl _ _).alloc (aY _) (.cells (abb ln lr) 160))).turn hT hn);clear hT hn)
 have HL3:=ah (ab1.out w7 ZJ.out.ap.bJ tb rb cap _ B _ (by have:=HNG.out;omega) ZJ.out.tab);go_upto_region 10 with(go_at_call 190;refine(HL3.out).mono ?_;rintro e w8 ⟨rfl,hT,hn⟩;have TK:Hid (Lt w H fZ tb rb cap B (Dc h g l ln lr) _ w8):=ah (ZJ.out.turn hT hn);clear hT hn)
 clear HLT aa6 aei ZJ HL0 HL1 HL2 HL3 abP ab5 abR ab1 HSG HSL HA HA2 Bq;have HG:=ah (RI h g l ln lr);generalize Dc h g l ln lr=m at TK HG;generalize 0+4+ng+2+nl=N at TK;have IJ:Hid (∀ (wr:World)(T:Lt w H fZ tb rb cap B m N wr)(k:List UInt8)(plain most:Int)(hk:k.length<=9223372036854775807)(hkk:Plain.jB h g l ln lr k=Plain.full (Plain.found g l k).1),
   Calls qp0 191 #[.pointer (some ⟨tb,0,none⟩),.string ⟨k.toArray⟩,.int .i64 plain,.int .i64 most] wr fun e w'=>e=.returned (.tuple #[.int .i64 (Plain.xq g l k plain most).1,.bool (Plain.xq g l k plain most).2])/\Below wr.heap.size wr w') :=ah (fun wr T k plain most hk hkk=>qM tb rb cap N B m k plain most wr ev T.tab hk (he.below T.ap.bJ) (Plain.found g l k).1 ((HG.out k).trans hkk) (zm g l hgl hll k))
 have hc5:w8.cell? ⟨w.heap.size,5,none⟩=some (.int .i64 h.size):=by rw[aG TK.out.ap.rh];exact HX5.out
 have HN1:=ah (IJ.out w8 TK.out yE h.size 9223372036854775807 (by decide) (Plain.OC h g l ln lr));go_upto_region 11 with(go_at_call 191;(refine(HN1.out).mono ?_);rintro e w9 ⟨rfl,Xi⟩;have aaI:=ah (TK.out.below Xi);clear Xi)
 have hc3:w9.cell? ⟨w.heap.size,3,none⟩=some (.int .i64 h.uid):=by rw[aG aaI.out.ap.rh];exact HX3.out
 have UL:=ah (IJ.out w9 aaI.out J7 h.uid 2147483647 (by decide) (Plain.SN h g l ln lr));clear hc5 HN1;go_upto_region 12 with(go_at_call 191;(refine(UL.out).mono ?_);rintro e MO ⟨rfl,P9⟩;have Q7:=ah (aaI.out.below P9);clear P9)
 have hc4:MO.cell? ⟨w.heap.size,4,none⟩=some (.int .i64 h.gid):=by rw[aG Q7.out.ap.rh];exact HX4.out
 have HN3:=ah (IJ.out MO Q7.out LY h.gid 2147483647 (by decide) (Plain.Uu h g l ln lr));clear hc3 UL;go_upto_region 13 with(go_at_call 191;(refine(HN3.out).mono ?_);rintro e w11 ⟨rfl,afo⟩;have Cg:=ah (Q7.out.below afo);clear afo)
 clear hc4 HN3 TK aaI Q7 IJ;have ae8:¬ (h.ty<48\/54<h.ty):=by
  rw[qbT,qbT];show ¬ (h.ty.toNat<48\/54<h.ty.toNat);omega
 generalize hr:Plain.gG h g l ln lr=r;have HE:=ah hr;unfold Plain.gG at hr;rw[if_neg ae8,hs,hs2] at hr;simp only[Bool.or_self,jI,if_false] at hr;have HR:=ah hr;clear hr ae8;generalize Plain.xq g l yE h.size 9223372036854775807=n1 at *
 generalize Plain.xq g l J7 h.uid 2147483647=n2 at *
 generalize Plain.xq g l LY h.gid 2147483647=n3 at *
 obtain⟨s1,s2⟩:=n1;obtain⟨u1,u2⟩:=n2;obtain⟨g1,g2⟩:=n3;simp only at *
 have hZ:=ah Eo;have hZO:=ah Ck;by_cases hok:(s2&&u2&&g2)=true
 .have hrr:=HR.out;rw[if_pos hok] at hrr;have HR2:=ah hrr;simp only[fE] at hok;obtain⟨⟨rfl,rfl⟩,rfl⟩:=hok;clear HR hrr;have hc2:w11.cell? ⟨w.heap.size,2,none⟩=some (.int .i64 h.mode):=by rw[aG Cg.out.ap.rh];exact HX2.out
  have hc6:w11.cell? ⟨w.heap.size,6,none⟩=some (.int .i64 h.mtime):=by rw[aG Cg.out.ap.rh];exact HX6.out
  go_upto_region 16 with fail
  change Code.wp _ _ _ _ (w11.alloc (.cells (ru ⟨0,[],[],bits .and .i64 h.mode 4095,u1,g1,[],[],h.mtime,0,[]⟩ none 0 0) 42))
  have HE0:=ah (Le.new Cg.out (ru ⟨0,[],[],bits .and .i64 h.mode 4095,u1,g1,[],[],h.mtime,0,[]⟩ none 0 0));clear hc2 hc6;generalize bits .and .i64 h.mode 4095=md at *
  generalize hge:w11.heap.size=ge at *
  generalize w11.alloc (.cells (ru ⟨0,[],[],md,u1,g1,[],[],h.mtime,0,[]⟩ none 0 0) 42)=w12 at *
  clear Cg hge;have afC:Hid (∀ (wr:World)(C:Array Value)(T:Le w H fZ tb rb cap B m N ge C wr)(k:List UInt8)(hk:k.length<=9223372036854775807),
   Calls qp0 192 #[.pointer (some ⟨tb,0,none⟩),.string ⟨k.toArray⟩] wr fun e w'=>e=.returned (abm (Plain.jB h g l ln lr k))/\Below wr.heap.size wr w') :=ah (fun wr C T k hk=>by have:=Q6 tb rb cap N B m k wr T.lt.tab hk;rw[HG.out k] at this;exact this)
  have Zm:=ah (afC.out w12 _ HE0.out qO (by decide));rw[Plain.Li] at Zm;have hxl:=zm g l hgl hll qO;unfold Plain.QH at HR2;generalize (Plain.found g l qO).1=x at Zm HR2 hxl;have hf:Plain.full x=(if x=[] then none else some x):=rfl;have hf1:(Plain.full x).isSome=!x.isEmpty:=by unfold Plain.full;cases x <;> rfl
  have hf2:(Plain.full x).getD []=x:=by unfold Plain.full;cases x <;> rfl
  unfold abm at Zm;rw[hf1,hf2] at Zm;have hbx:(x=[])↔((!x.isEmpty)=false):=by cases x <;> simp
  generalize (!x.isEmpty)=bx at Zm hbx;have Xr:=ah hbx;clear hf hf1 hf2 hbx;go_upto_if 115 with(go_at_call 192;(refine(Zm.out).mono ?_);rintro e w13 ⟨rfl,aeV⟩;have UU:=ah (HE0.out.below aeV);clear aeV);clear Zm HE0;go_cut [22,23,115] from 116 to 124 (fun v22 v ah0 wx=>∃ t:Int×Int,Hid ((if x=[] then((h.mtime,(0:Int)),(0:Int)) else Plain.jv x)=(t,0))/\Hid (Le w H fZ tb rb cap B m N ge (ru ⟨0,[],[],md,u1,g1,[],[],t.1,t.2,[]⟩ none 0 0) wx))
  case first =>
   by_cases hx:x=[]
   .obtain rfl:=Xr.out.1 hx;subst hx;go_wp2
    go_meet;exact⟨(h.mtime,0),ah rfl,UU⟩
   .obtain rfl:bx=true:=by
     cases bx with
     | true=>rfl
     | false=>exact absurd (Xr.out.2 rfl) hx
    have HST:=ah (BQ x w13 ev hxl (hm.below UU.out.lt.ap.bJ) (he.below UU.out.lt.ap.bJ));generalize hp:Plain.jv x=q at *
    obtain⟨t,c⟩:=q;have HXN:=ah hx;have aer:=ah (Yg t);have afB:=ah (acK t);clear hx;by_cases hc:c=0
    .subst hc;go_wp2_with (first|(go_at_call 193;(refine(HST.out).mono ?_);rintro e w14 ⟨rfl,WU⟩;have HE2:=ah (UU.out.below WU);clear WU)|(refine wpList_store_mid rfl 40 _ _ rfl ge 8 (aQ t) rfl rfl (Le.Vd HE2.out) aer.out afB.out ?_))
     go_meet;refine⟨t,ah (by rw[if_neg HXN.out]),ah ?_⟩;exact HE2.out.time t
    .have hcb:(c != 0)=true:=by rw[bne_iff_ne];exact hc
     have hrr:=HR2.out;rw[if_neg HXN.out,if_pos hc] at hrr;subst hrr;clear HR2 hc;go_upto_region 21 with(first|(go_at_call 193;(refine(HST.out).mono ?_);rintro e w14 ⟨rfl,WU⟩;have HE2:=ah (UU.out.below WU);clear WU)|(refine wpList_store_mid rfl 40 _ _ rfl ge 8 (aQ t) rfl rfl (Le.Vd HE2.out) aer.out afB.out ?_;have SX:=ah (HE2.out.time t)))
     go_wp2_with (with_reducible refine wpList_store_row rfl 42 _ _ rfl (w.heap.size+1) rfl fZ rfl fZ 42 SX.out.lt.ap.rr rfl hZ.out hZO.out ?_)
     exact bodyPost_ret (bS rfl _ _ (w.heap.size+1) 42 fZ (0,0) _ _ _ rfl rfl rfl (setRow_heap _ _ _ _ _ _ SX.out.lt.ap.rr) underlying42 rfl hZ.out) rfl ⟨by rw[HE.out];rfl,Below.setRow SX.out.lt.ap.bJ (by omega) _⟩
  case rest =>
   obtain⟨t,ht,HE2⟩:=hcut;have hrr:=HR2.out;rw[ht.out] at hrr;simp only[ne_eq,not_true,if_false] at hrr;have HGT:Hid (∀ (wr:World) (C:Array Value) (T:Le w H fZ tb rb cap B m N ge C wr) (k nm:List UInt8) (hk:k.length<=9223372036854775807) (hnm:(Plain.jB h g l ln lr k).getD []=nm),
    Calls qp0 192 #[.pointer (some ⟨tb,0,none⟩),.string ⟨k.toArray⟩] wr fun e w'=>e=.returned (.tuple #[.string ⟨nm.toArray⟩,.bool (Plain.jB h g l ln lr k).isSome])/\Below wr.heap.size wr w') :=ah (fun wr C T k nm hk hnm=>by have:=afC.out wr C T k hk;unfold abm at this;rw[hnm] at this;exact this)
   have ahi:=TN g l hgl hll kr ln h.name hln hhn;have hn1:=Plain.Pf h g l ln lr;have hn2:=Plain.Lc h g l ln lr;have hn3:=Plain.JZ h g l ln lr;have hn4:=Plain.Og h g l ln lr;generalize Plain.lG g l kr ln h.name=nm at hrr hn1 ahi;generalize Plain.lG g l lZ [] h.user=us at hrr hn2;generalize Plain.lG g l lX [] h.group=gr at hrr hn3;generalize Plain.lG g l mF lr h.link=lk at hrr hn4;have HRR:=ah hrr;have HN1:=ah hn1;have UL:=ah hn2;have HN3:=ah hn3;have Zl:=ah hn4;clear hrr hn1 hn2 hn3 hn4 UU;have HG2:=ah (HGT.out _ _ HE2.out kr nm (by decide) HN1.out);generalize (Plain.jB h g l ln lr kr).isSome=b1 at HG2;go_upto_region 23 with(go_at_call 192;(refine(HG2.out).mono ?_);rintro e w15 ⟨rfl,aeK⟩;have SX:=ah (HE2.out.below aeK);clear aeK;have hx1:=aG SX.out.row 1;have hx2:=aS SX.out.row 1)
   have HE4:Hid (Le w H fZ tb rb cap B m N ge (ru ⟨0,nm,[],md,u1,g1,[],[],t.1,t.2,[]⟩ none 0 0) (w15.setCell ⟨ge,1,none⟩ (.string ⟨nm.toArray⟩))):=ah (SX.out.set 1 (.string ⟨nm.toArray⟩));generalize w15.setCell ⟨ge,1,none⟩ (.string ⟨nm.toArray⟩)=w16 at *
   clear SX HG2 hx1 hx2;have HG3:=ah (HGT.out _ _ HE4.out lZ us (by decide) UL.out);generalize (Plain.jB h g l ln lr lZ).isSome=b2 at HG3;go_upto_region 24 with(go_at_call 192;(refine(HG3.out).mono ?_);rintro e w17 ⟨rfl,afU⟩;have HE5:=ah (HE4.out.below afU);clear afU;have hx1:=aG HE5.out.row 6;have hx2:=aS HE5.out.row 6)
   have HE6:Hid (Le w H fZ tb rb cap B m N ge (ru ⟨0,nm,[],md,u1,g1,us,[],t.1,t.2,[]⟩ none 0 0) (w17.setCell ⟨ge,6,none⟩ (.string ⟨us.toArray⟩))):=ah (HE5.out.set 6 (.string ⟨us.toArray⟩));generalize w17.setCell ⟨ge,6,none⟩ (.string ⟨us.toArray⟩)=w18 at *
   clear HE4 HE5 HG3 hx1 hx2;have HG4:=ah (HGT.out _ _ HE6.out lX gr (by decide) HN3.out);generalize (Plain.jB h g l ln lr lX).isSome=b3 at HG4;go_upto_region 25 with(go_at_call 192;(refine(HG4.out).mono ?_);rintro e w19 ⟨rfl,afg⟩;have HE7:=ah (HE6.out.below afg);clear afg;have hx1:=aG HE7.out.row 7;have hx2:=aS HE7.out.row 7)
   have HE8:Hid (Le w H fZ tb rb cap B m N ge (ru ⟨0,nm,[],md,u1,g1,us,gr,t.1,t.2,[]⟩ none 0 0) (w19.setCell ⟨ge,7,none⟩ (.string ⟨gr.toArray⟩))):=ah (HE7.out.set 7 (.string ⟨gr.toArray⟩));generalize w19.setCell ⟨ge,7,none⟩ (.string ⟨gr.toArray⟩)=w20 at *
   clear HE6 HE7 HG4 hx1 hx2;have UN:w20.cell? ⟨w.heap.size,7,none⟩=some (.int .u8 (h.ty.toNat:Int)):=by rw[aG HE8.out.lt.ap.rh];exact GY.out
   have hc1:w20.cell? ⟨ge,1,none⟩=some (.string ⟨nm.toArray⟩):=by rw[aG HE8.out.row];rfl
   have hd0:=aG HE8.out.row 0;have hd1:=aS HE8.out.row 0;have HKD:=ah (Pk h.ty nm w20 (by omega));have hlk:=Oz h.ty nm;go_upto_region 26 with(go_at_call 194;(refine(HKD.out).mono ?_);rintro e w21 ⟨rfl,rfl⟩)
   have hk0:h.ty=48\/¬ h.ty=48:=Decidable.em _;have h48:h.ty=48->Plain.oo h.ty nm=1\/Plain.oo h.ty nm=2:=fun e=>by
    unfold Plain.oo;rw[if_pos e];split <;> simp
   generalize Plain.oo h.ty nm=K at *
   have WW:Hid (Le w H fZ tb rb cap B m N ge (ru ⟨K,nm,[],md,u1,g1,us,gr,t.1,t.2,[]⟩ none 0 0) (w20.setCell ⟨ge,0,none⟩ (.int .i64 K))):=ah (HE8.out.set 0 (.int .i64 K));generalize w20.setCell ⟨ge,0,none⟩ (.int .i64 K)=w22 at *
   clear HE8 HKD UN hc1 hd0 hd1;have hc0:w22.cell? ⟨ge,0,none⟩=some (.int .i64 K):=by rw[aG WW.out.row];rfl
   have UN:w22.cell? ⟨w.heap.size,7,none⟩=some (.int .u8 (h.ty.toNat:Int)):=by rw[aG WW.out.lt.ap.rh];exact GY.out
   have GK:(((h.ty.toNat:Nat):Int) != 48)=!decide (h.ty=48):=by
    by_cases e:h.ty=48
    .rw[e];rfl
    .have:¬ h.ty.toNat=48:=fun e2=>e (VL.1 e2)
     have:(((h.ty.toNat:Nat):Int) != 48)=true:=by rw[bne_iff_ne];omega
     rw[this];simp[e]
   by_cases hl:K=4\/K=3
   .have hty:=hlk.1 hl;have adF:¬ h.ty=48:=by rcases hty with e|e <;> (rw[e];decide)
    have hrr:=HRR.out;rw[if_pos hty,if_neg adF] at hrr;subst hrr;have hbt:(((h.ty.toNat:Nat):Int) != 48)=true:=by rw[GK];simp[adF]
    have HG5:=ah (HGT.out _ _ WW.out mF lk (by decide) Zl.out);generalize (Plain.jB h g l ln lr mF).isSome=b4 at HG5;clear GK hlk h48 hk0 hty adF HRR;have hl4:(K==4)=true\/((K==4)=false/\(K==3)=true):=by
     rcases hl with e|e
     .left;rw[e];rfl
     .right;rw[e];exact⟨rfl,rfl⟩
    clear hl;have HTY:=ah UN;clear UN;have ahm:Hid (∀ Zn,Le w H fZ tb rb cap B m N ge (ru ⟨K,nm,lk,md,u1,g1,us,gr,t.1,t.2,[]⟩ none 0 0) Zn->Zn.cell? ⟨w.heap.size,7,none⟩=some (.int .u8 (h.ty.toNat:Int))/\Zn.rangeAt ge 0 (ru ⟨K,nm,lk,md,u1,g1,us,gr,t.1,t.2,[]⟩ none 0 0).toList):=ah (fun Zn h23=>⟨by rw[aG h23.lt.ap.rh];exact GY.out,tV h23.row⟩);rcases hl4 with hk4|⟨hk4,hk3⟩
    all_goals
     go_upto_region 28 with(go_at_call 192;(refine(HG5.out).mono ?_);rintro e Zn ⟨rfl,af7⟩;have Zx:=ah (WW.out.below af7);clear af7;have hx1:=aG Zx.out.row 2;have hx2:=aS Zx.out.row 2)
     have abf:Hid (Le w H fZ tb rb cap B m N ge (ru ⟨K,nm,lk,md,u1,g1,us,gr,t.1,t.2,[]⟩ none 0 0) (Zn.setCell ⟨ge,2,none⟩ (.string ⟨lk.toArray⟩))):=ah (Zx.out.set 2 (.string ⟨lk.toArray⟩));generalize Zn.setCell ⟨ge,2,none⟩ (.string ⟨lk.toArray⟩)=w24 at *
     obtain⟨hf7,hfr⟩:=ahm.out w24 abf.out;have HFR:=ah hfr;have qh:=ah (vD ⟨K,nm,lk,md,u1,g1,us,gr,t.1,t.2,[]⟩ none 0 0);have AP:=ah (lq ⟨K,nm,lk,md,u1,g1,us,gr,t.1,t.2,[]⟩ none 0 0);clear hfr hx1 hx2 Zx;go_wp2_with (first|(refine cK rfl 42 _ rfl ge 0 rfl (ru ⟨K,nm,lk,md,u1,g1,us,gr,t.1,t.2,[]⟩ none 0 0) _ HFR.out underlying42 rfl (by rw[U5];exact qh.out) ?_)|(refine wpList_store_row rfl 42 _ _ rfl (w.heap.size+1) rfl (ru ⟨K,nm,lk,md,u1,g1,us,gr,t.1,t.2,[]⟩ none 0 0) rfl fZ 42 abf.out.lt.ap.rr rfl qh.out AP.out ?_))
     exact bodyPost_ret (bS rfl _ _ (w.heap.size+1) 42 (ru ⟨K,nm,lk,md,u1,g1,us,gr,t.1,t.2,[]⟩ none 0 0) (0,0) _ _ _ rfl rfl rfl (setRow_heap _ _ _ _ _ _ abf.out.lt.ap.rr) underlying42 rfl qh.out) rfl ⟨by rw[HE.out];rfl,Below.setRow abf.out.lt.ap.bJ (by omega) _⟩
   .have hty:¬ (h.ty=49\/h.ty=50):=fun e=>hl (hlk.2 e)
    have hk4:(K==4)=false:=by rw[beq_eq_false_iff_ne];exact fun e=>hl (.inl e)
    have hk3:(K==3)=false:=by rw[beq_eq_false_iff_ne];exact fun e=>hl (.inr e)
    have HFR:=ah (tV WW.out.row);have qh:=ah (vD ⟨K,nm,[],md,u1,g1,us,gr,t.1,t.2,[]⟩ none 0 0);have AP:=ah (lq ⟨K,nm,[],md,u1,g1,us,gr,t.1,t.2,[]⟩ none 0 0);have hrr:=HRR.out;rw[if_neg hty] at hrr;clear hlk h48 hty hl HRR;rcases hk0 with h0|h0
    .rw[if_pos h0] at hrr;subst hrr;have hbt:(((h.ty.toNat:Nat):Int) != 48)=false:=by rw[GK];simp[h0]
     clear h0 GK;go_wp2_with (first|(refine cK rfl 42 _ rfl ge 0 rfl (ru ⟨K,nm,[],md,u1,g1,us,gr,t.1,t.2,[]⟩ none 0 0) _ HFR.out underlying42 rfl (by rw[U5];exact qh.out) ?_)|(refine wpList_store_row rfl 42 _ _ rfl (w.heap.size+1) rfl (ru ⟨K,nm,[],md,u1,g1,us,gr,t.1,t.2,[]⟩ none 0 0) rfl fZ 42 WW.out.lt.ap.rr rfl qh.out AP.out ?_))
     exact bodyPost_ret (bS rfl _ _ (w.heap.size+1) 42 (ru ⟨K,nm,[],md,u1,g1,us,gr,t.1,t.2,[]⟩ none 0 0) (0,0) _ _ _ rfl rfl rfl (setRow_heap _ _ _ _ _ _ WW.out.lt.ap.rr) underlying42 rfl qh.out) rfl ⟨by rw[HE.out];rfl,Below.setRow WW.out.lt.ap.bJ (by omega) _⟩
    .rw[if_neg h0] at hrr;subst hrr;have hbt:(((h.ty.toNat:Nat):Int) != 48)=true:=by rw[GK];simp[h0]
     clear h0 GK;go_wp2_with (first|(refine cK rfl 42 _ rfl ge 0 rfl (ru ⟨K,nm,[],md,u1,g1,us,gr,t.1,t.2,[]⟩ none 0 0) _ HFR.out underlying42 rfl (by rw[U5];exact qh.out) ?_)|(refine wpList_store_row rfl 42 _ _ rfl (w.heap.size+1) rfl (ru ⟨K,nm,[],md,u1,g1,us,gr,t.1,t.2,[]⟩ none 0 0) rfl fZ 42 WW.out.lt.ap.rr rfl qh.out AP.out ?_))
     exact bodyPost_ret (bS rfl _ _ (w.heap.size+1) 42 (ru ⟨K,nm,[],md,u1,g1,us,gr,t.1,t.2,[]⟩ none 0 0) (0,0) _ _ _ rfl rfl rfl (setRow_heap _ _ _ _ _ _ WW.out.lt.ap.rr) underlying42 rfl qh.out) rfl ⟨by rw[HE.out];rfl,Below.setRow WW.out.lt.ap.bJ (by omega) _⟩
 .have hrr:=HR.out;rw[if_neg hok] at hrr;subst hrr;clear HR;have hcs:s2=false\/(s2=true/\u2=false)\/(s2=true/\u2=true/\g2=false):=by
   cases s2 <;> cases u2 <;> cases g2 <;> simp at hok ⊢
  clear hok;rcases hcs with rfl|⟨rfl,rfl⟩|⟨rfl,rfl,rfl⟩
  all_goals
   go_upto_region 14 with fail
   go_wp2_with (with_reducible refine wpList_store_row rfl 42 _ _ rfl (w.heap.size+1) rfl fZ rfl fZ 42 Cg.out.ap.rr rfl hZ.out hZO.out ?_)
   exact bodyPost_ret (bS rfl _ _ (w.heap.size+1) 42 fZ (0,0) _ _ _ rfl rfl rfl (setRow_heap _ _ _ _ _ _ Cg.out.ap.rr) underlying42 rfl hZ.out) rfl ⟨by rw[HE.out];rfl,Below.setRow Cg.out.ap.bJ (by omega) _⟩
theorem TJ(h:Hd)(ag al:Option Addr)(ng cg nl cl:Nat)(g l:List Pr)(ln lr:List UInt8)(w:World)(ev:Value)(hg:uD w ag ng cg g)(hl:uD w al nl cl l)(hgl:PrL g)(hll:PrL l)(hng:ng<=4194304)(hnl:nl<=4194304)(hhn:h.name.length<=140737488351232)(hln:ln.length<=140737488351232)(hm:uF w)(he:eO w ev):Calls qp0 152 #[.agg (dQ h),.slice ag ng cg,.slice al nl cl,.string ⟨ln.toArray⟩,.string ⟨lr.toArray⟩] w fun e w'=>e=.returned (apV (Plain.gG h g l ln lr))/\Below w.heap.size w w':=by
 have hlt:(h.ty<48\/54<h.ty)↔(h.ty.toNat<48\/54<h.ty.toNat):=by
  rw[qbT,qbT];exact Iff.rfl
 by_cases ht:h.ty.toNat<48\/54<h.ty.toNat
 .have e:Plain.gG h g l ln lr=(En.none,0,73):=by unfold Plain.gG;rw[if_pos (hlt.2 ht)]
  rw[e];exact Pe h ag al ng cg nl cl ln lr w ht
 .by_cases hs:(Plain.sparse g||Plain.sparse l)=true
  .have e:Plain.gG h g l ln lr=(En.none,0,61):=by unfold Plain.gG;rw[if_neg (fun c=>ht (hlt.1 c)),if_pos hs]
   rw[e];exact Il h ag al ng cg nl cl g l ln lr w hg hl (by omega) (by omega) hs
  .simp only[Yb,not_or,qcg] at hs;exact Oj h ag al ng cg nl cl g l ln lr w ev hg hl (by omega) (by omega) hs.1 hs.2 hgl hll hng hnl hhn hln hm he
end Ov
end
theorem mh:∀ (l:List UInt8)(c:UInt8),Lib.indexByte l c=if (l.takeWhile (· != c)).length<l.length then(((l.takeWhile (· != c)).length:Nat):Int) else -1
 | [],c=>by simp[Lib.indexByte]
 | b::l,c=>by
  have ih:=mh l c;unfold Lib.indexByte;by_cases h:b=c
  .subst h;rw[if_pos (by simp),List.takeWhile_cons_of_neg (by simp)];simp
  .rw[if_neg (by simpa using h),List.takeWhile_cons_of_pos (by simpa using h),ih];by_cases h2:(l.takeWhile (· != c)).length<l.length
   .rw[if_pos h2,if_neg (by simp),if_pos (by simp;omega)];simp
   .rw[if_neg h2,if_pos (by simp),if_neg (by simp;omega)]
theorem CU(a:Option Addr)(n c:Nat)(l:List UInt8)(cv:UInt8)(w:World)(h:Bs w a n c l):Calls qp0 183 #[.slice a n c,.int .u8 (cv.toNat:Int)] w fun e w'=>e=.returned (.int .i64 (Lib.indexByte l cv))/\w=w':=by
 have hcv:((cv.toNat:Int).toNat).toUInt8=cv:=by simp
 cases a with
 | none =>
  obtain⟨rfl,rfl⟩:=h.2.2.2.2 rfl;have:l=[]:=O8 h.len;subst this;exact(Tryz.bytes_IndexByte_nil (cv.toNat:Int) w).mono fun e w' ⟨he,hw⟩=>⟨he,hw.symm⟩
 | some x =>
  have hb:Lib.bytesOf (l.map fun b=>(b.toNat:Int))=l:=by simp[Lib.bytesOf,Function.comp_def]
  refine(Tryz.bytes_IndexByte_at x n c (l.map fun b=>(b.toNat:Int)) (cv.toNat:Int) w (by simpa using h.len) (fun i hi=>?_)).mono fun e w' ⟨he,hw⟩=>⟨by rw[hb,hcv] at he;exact he,hw.symm⟩
  have hl:=h.len;have hil:i<l.length:=by omega
  obtain⟨y,hy,hc⟩:=h.2.2.2.1 i (jJ l[i]) (by simp[kM hil])
  cases hy
  rw[hc];simp[List.getD,kM hil,jJ]
theorem FP(a:Option Addr)(n c:Nat)(l:List UInt8)(b2:Nat)(c2:Nat)(cv:UInt8)(w:World)(h:Bs w a n c l)(hs:w.cell? ⟨b2,0,none⟩=some (.int .u8 (cv.toNat:Int))):Calls qp0 254 #[.slice a n c,.slice (some ⟨b2,0,none⟩) 1 c2] w fun e w'=>e=.returned (.int .i64 (Lib.indexByte l cv))/\w=w':=by
 have H:=ah (CU a n c l cv w h);have hcap:=h.cap;have hmax:=h.max;generalize Lib.indexByte l cv=i at *
 generalize (cv.toNat:Int)=v at *
 clear h;go_enter func254,ntmps254;go_wp2_with (go_at_call 183;(with_reducible refine(H.out).mono ?_);rintro e w1 ⟨rfl,hw⟩;obtain rfl:=hw)
 go_ret;exact⟨rfl,rfl⟩
def iG(w:World)(a:Option Addr)(n c:Nat)(l:List UInt8)(cv:UInt8)(e:Ending)(w':World):Prop :=Below w.heap.size w w'/\if (l.takeWhile (· != cv)).length<n then ∃ a1 a2,e=.returned (.tuple #[.slice a1 (l.takeWhile (· != cv)).length c,.slice a2 (n-((l.takeWhile (· != cv)).length+1)) (c-((l.takeWhile (· != cv)).length+1)),.bool true])/\Bs w' a1 (l.takeWhile (· != cv)).length c (l.takeWhile (· != cv))
  else ∃ v1 v2,e=.returned (.tuple #[v1,v2,.bool false])
theorem Cv(l:List UInt8)(p:UInt8->Bool):l.takeWhile p=l.take (l.takeWhile p).length:=List.prefix_iff_eq_take.1 (List.takeWhile_prefix _)
theorem Mr{w w':World}{a:Option Addr}{n c i:Nat}{l:List UInt8}{cv:UInt8}(hi:(l.takeWhile (· != cv)).length=i)(hf:i<n)(a1 a2:Option Addr)(m k:Nat)(hm:m=n-(i+1))(hk:k=c-(i+1))(hb:Below w.heap.size w w')(h:Bs w' a1 i c (l.take i)):iG w a n c l cv (.returned (.tuple #[.slice a1 i c,.slice a2 m k,.bool true])) w':=by
 subst hm;subst hk;have ht:=Cv l (· != cv);rw[hi] at ht;unfold iG;rw[hi,if_pos hf,ht];exact⟨hb,a1,a2,rfl,h⟩
theorem aa7{w w':World}{a:Option Addr}{n c i:Nat}{l:List UInt8}{cv:UInt8}(hi:(l.takeWhile (· != cv)).length=i)(hf:¬ i<n)(v1 v2:Value)(hb:Below w.heap.size w w'):iG w a n c l cv (.returned (.tuple #[v1,v2,.bool false])) w':=by
 unfold iG;rw[hi,if_neg hf];exact⟨hb,v1,v2,rfl⟩
theorem rW(a:Option Addr)(n c:Nat)(l:List UInt8)(b2:Nat)(c2:Nat)(cv:UInt8)(w:World)(h:Bs w a n c l)(hs:w.cell? ⟨b2,0,none⟩=some (.int .u8 (cv.toNat:Int))):Calls qp0 243 #[.slice a n c,.slice (some ⟨b2,0,none⟩) 1 c2] w (iG w a n c l cv):=by
 have H:=FP a n c l b2 c2 cv w h hs;have hcap:=h.cap;have hmax:=h.max;have hl:=h.len;rw[mh,hl] at H;obtain⟨i,hi⟩:∃ i,(l.takeWhile (· != cv)).length=i:=⟨_,rfl⟩
 rw[hi] at H;have HI:=ah hi;by_cases hf:i<n
 .rw[if_pos hf] at H;have HH:=ah H;have hif:(0:Int)<=(i:Int):=by omega
  obtain⟨b,off,rfl,_⟩:=h.at 0 (by omega);have hb1:=Qk h i (by omega);have i1:(i:Int)<=c:=by omega
  have i2:(i:Int)+1<=n:=by omega
  have i3:(n:Int)<=c:=by omega
  have i4:(i:Int)+1<=c:=by omega
  have n1:i+1<=n:=by omega
  have n2:i<=c:=by omega
  have n3:i+1<=c:=by omega
  clear H hi hs hl;by_cases hci:c=i+1
  .subst hci;have HB1:=ah hb1;clear hb1;go_enter func243,ntmps243;go_wp2_with (go_at_call 254;(with_reducible refine(HH.out).mono ?_);rintro e w1 ⟨rfl,hw⟩;obtain rfl:=hw)
   go_quiet (fail)
   go_wp2
   go_ret3;exact Mr HI.out hf _ _ _ _ (by omega) (by omega) (Below.drewN (Below.refl _ _) _) ((Keeps.drewN _ _).bs HB1.out)
  .have HB1:=ah hb1;clear hb1;go_enter func243,ntmps243;go_wp2_with (go_at_call 254;(with_reducible refine(HH.out).mono ?_);rintro e w1 ⟨rfl,hw⟩;obtain rfl:=hw)
   go_quiet (fail)
   go_wp2
   go_ret3;exact Mr HI.out hf _ _ _ _ (by omega) (by omega) (Below.drewN (Below.refl _ _) _) ((Keeps.drewN _ _).bs HB1.out)
 .rw[if_neg hf] at H;have HH:=ah H;clear H hi hs hl;go_enter func243,ntmps243;go_wp2_with (go_at_call 254;(with_reducible refine(HH.out).mono ?_);rintro e w1 ⟨rfl,hw⟩;obtain rfl:=hw)
  go_ret3;exact aa7 HI.out hf _ _ (Below.refl _ _)
theorem O1(t:List UInt8)(c:UInt8):Lib.hasSuffix t [c]=decide (t.getLast? = some c)/\(Lib.hasSuffix t [c]=true->Lib.trimSuffix t [c]=t.dropLast):=by
 have h1:Lib.hasSuffix t [c]=decide (t.getLast? = some c):=by
  unfold Lib.hasSuffix;rw[qbG];simp only[decide_eq_true_eq];constructor
  .intro h;have:=h;simp[List.isSuffixOf_iff_suffix] at this;obtain⟨s,rfl⟩:=this;simp
  .intro h;obtain⟨s,rfl⟩:=List.getLast?_eq_some_iff.1 h;simp[List.isSuffixOf_iff_suffix]
 refine⟨h1,fun h=>?_⟩;unfold Lib.trimSuffix;rw[if_pos h,List.dropLast_eq_take];rfl
def cutV(l:List UInt8)(cv:UInt8):Value:=if (l.takeWhile (· != cv)).length<l.length then .tuple #[.string ⟨(l.takeWhile (· != cv)).toArray⟩,.string ⟨(l.drop ((l.takeWhile (· != cv)).length+1)).toArray⟩,.bool true] else .tuple #[.string ⟨l.toArray⟩,.string ⟨#[]⟩,.bool false]
theorem XQ(l:List UInt8)(cv:UInt8)(w:World)(hm:l.length<=140737488355328):Calls qp0 247 #[.string ⟨l.toArray⟩,.string ⟨#[cv]⟩] w fun e w'=>e=.returned (cutV l cv)/\Below w.heap.size w w':=by
 have H0:=Tryz.stringslite_Index_one ⟨l.toArray⟩ cv w;have e0:(⟨l.toArray⟩:ByteArray).data.toList=l:=rfl;rw[e0,mh] at H0;have htk:=Cv l (· != cv);unfold cutV;generalize hi:(l.takeWhile (· != cv)).length=i at *
 by_cases hf:i<l.length
 .rw[if_pos hf] at H0 ⊢;have HH:=ah H0;have e1:((⟨l.toArray⟩:ByteArray).extract 0 i)=⟨(l.take i).toArray⟩:=by rw[ByteArray.extract_mk];simp
  have e2:((⟨l.toArray⟩:ByteArray).extract (i+1) l.length)=⟨(l.drop (i+1)).toArray⟩:=by
   rw[ByteArray.extract_mk];simp;rw[MU (by simp)]
  rw[htk];have hif:(i:Int)<(l.length:Int):=by omega
  clear H0 htk hi e0;have ahS:(i:Int)+1<=(l.length:Int):=by omega
  have ah1:i+1<=l.length:=by omega
  go_enter func247,ntmps247;go_wp2_with (go_at_call 198;(with_reducible refine(HH.out).mono ?_);rintro e w1 ⟨rfl,hw⟩;obtain rfl:=hw.symm)
  go_quiet (fail)
  go_wp2
  go_ret3;exact⟨rfl,Below.drewN (Below.refl _ _) _⟩
 .rw[if_neg hf] at H0 ⊢;have HH:=ah H0;clear H0 htk hi e0;go_enter func247,ntmps247;go_wp2_with (go_at_call 198;(with_reducible refine(HH.out).mono ?_);rintro e w1 ⟨rfl,hw⟩;obtain rfl:=hw.symm)
  go_ret3;exact⟨rfl,Below.refl _ _⟩
theorem XU(l:List UInt8)(cv:UInt8)(w:World)(hm:l.length<=140737488355328):Calls qp0 221 #[.string ⟨l.toArray⟩,.string ⟨#[cv]⟩] w fun e w'=>e=.returned (cutV l cv)/\Below w.heap.size w w':=by
 have H:=XQ l cv w hm;unfold cutV at *
 by_cases hf:(l.takeWhile (· != cv)).length<l.length
 .rw[if_pos hf] at H ⊢;have HH:=ah H;clear H hf;go_enter func221,ntmps221;go_wp2_with (go_at_call 247;(with_reducible refine(HH.out).mono ?_);rintro e w1 ⟨rfl,hw⟩)
  go_ret3;exact⟨rfl,hw⟩
 .rw[if_neg hf] at H ⊢;have HH:=ah H;clear H hf;go_enter func221,ntmps221;go_wp2_with (go_at_call 247;(with_reducible refine(HH.out).mono ?_);rintro e w1 ⟨rfl,hw⟩)
  go_ret3;exact⟨rfl,hw⟩
def og(w:World):World:=(w.alloc (.cells #[.string ⟨#[]⟩,.string ⟨#[]⟩] 160)).alloc (.cells #[.int .u8 32] 5 (1,2))
theorem jC(w:World):Below w.heap.size w (og w):=((Below.refl _ _).alloc (aY _) _).alloc (by simp) _
theorem lF(w:World):(og w).cell? ⟨w.heap.size+1,0,none⟩=some (.int .u8 ((32:UInt8).toNat:Int)):=by
 have e:(w.alloc (.cells #[.string ⟨#[]⟩,.string ⟨#[]⟩] 160)).heap.size=w.heap.size+1:=by simp
 rw[og,<-e,World.cell?_alloc_mark];rfl
theorem OQ(w:World):(og w).heap.size=w.heap.size+2:=by unfold og;simp
theorem SK(w:World):(og w).heap[w.heap.size]? = some (.cells #[.string ⟨#[]⟩,.string ⟨#[]⟩] 160 (0,0)):=heap_alloc2_old _ _ _
structure ku(w wr:World):Prop where
 bJ:Below w.heap.size w wr
 lt:w.heap.size+1<wr.heap.size
 c0:wr.cell? ⟨w.heap.size,0,none⟩=some (.string ⟨#[]⟩)
 c1:wr.cell? ⟨w.heap.size,1,none⟩=some (.string ⟨#[]⟩)
 f0:wr.frozen? ⟨w.heap.size,0,none⟩=false
 f1:wr.frozen? ⟨w.heap.size,1,none⟩=false
theorem ku.of{w wr:World}(h:Below (og w).heap.size (og w) wr):ku w wr:=by
 have hs:=OQ w;have hz:=h.size;have hr:wr.heap[w.heap.size]? = some (.cells #[.string ⟨#[]⟩,.string ⟨#[]⟩] 160 (0,0)):=by
  rw[h.block _ (by omega)];exact SK w
 exact⟨Below.seq (jC w) h,by omega,by rw[cell_of_row _ _ _ _ _ _ hr];rfl,by rw[cell_of_row _ _ _ _ _ _ hr];rfl,frozen_of_row _ _ _ _ _ hr,frozen_of_row _ _ _ _ _ hr⟩
theorem ku.keep{w wr w':World}(h:ku w wr)(k:Below wr.heap.size wr w'):ku w w':=by
 have hl:=h.lt;have hz:=k.size;refine⟨Below.seq h.bJ k,by omega,Below.keeps k _ _ h.c0,Below.keeps k _ _ h.c1,?_,?_⟩
 .rw[k.frozen (p:=⟨w.heap.size,0,none⟩) (by simp only;omega)];exact h.f0
 .rw[k.frozen (p:=⟨w.heap.size,1,none⟩) (by simp only;omega)];exact h.f1
theorem nD(w:World):(convert 22 22 (.slice (some ⟨w.heap.size+1,0,none⟩) 1 1)).run qp0 ((w.alloc (.cells #[.string ⟨#[]⟩,.string ⟨#[]⟩] 160)).alloc (.cells #[.int .u8 32] 5))=.ok (.slice (some ⟨w.heap.size+1,0,none⟩) 1 1) (og w):=by
 have e:(w.alloc (.cells #[.string ⟨#[]⟩,.string ⟨#[]⟩] 160)).heap.size=w.heap.size+1:=by simp
 have:=Lib.run_convert_bytes_const (P:=qp0) (w.alloc (.cells #[.string ⟨#[]⟩,.string ⟨#[]⟩] 160)) 22 5 #[.int .u8 32] 1 1 underlying22 underlying5;rw[e] at this;exact this
theorem Kg(l:List UInt8)(h:¬ (bn l).length<l.length):Plain.one l=none:=by
 unfold Plain.one;rw[if_neg (fun hc=>h hc.1)]
theorem JA(a:Option Addr)(n c:Nat)(l:List UInt8)(w:World)(h:Bs w a n c l)(hf:¬ (l.takeWhile (· != 32)).length<n):Calls qp0 216 #[.slice a n c] w fun e w'=>e=.returned (.tuple #[.agg #[.string ⟨#[]⟩,.string ⟨#[]⟩],.slice none 0 0,.bool false])/\Below w.heap.size w w':=by
 have kc:=nD w;have HB:=ah (rW a n c l (w.heap.size+1) 1 32 (og w) (Below.bs (jC w) h) (lF w));clear h;go_enter func216,ntmps216;go_wp2_with (go_at_call 243;(refine(HB.out).mono ?_);rintro e w3 hres;unfold iG at hres;rw[if_neg hf] at hres;obtain⟨hb3,v1,v2,rfl⟩:=hres;have hN:=ku.of hb3;have hc0:=hN.c0;have hc1:=hN.c1;have hf0:=hN.f0;have hf1:=hN.f1;have hbel:=hN.bJ;have hlt:=hN.lt;clear hb3)
 refine bodyPost_ret (v:=.tuple #[.agg #[.string ⟨#[]⟩,.string ⟨#[]⟩],.slice none 0 0,.bool false]) (by simp[results,results216,go_sem,hc0,hc1]) rfl ⟨rfl,?_⟩
 first|exact hbel|exact hbel.setCell (by simp) _|exact(hbel.setCell (by simp) _).setCell (by simp) _
theorem Rn(a:Option Addr)(n c:Nat)(l:List UInt8)(w:World)(h:Bs w a n c l)(hf:(l.takeWhile (· != 32)).length<n)(h9:9<(l.takeWhile (· != 32)).length):Calls qp0 216 #[.slice a n c] w fun e w'=>e=.returned (.tuple #[.agg #[.string ⟨#[]⟩,.string ⟨#[]⟩],.slice none 0 0,.bool false])/\Below w.heap.size w w':=by
 have kc:=nD w;have HB:=ah (rW a n c l (w.heap.size+1) 1 32 (og w) (Below.bs (jC w) h) (lF w));have h9i:(9:Int)<((l.takeWhile (· != 32)).length:Int):=by omega
 clear h;go_enter func216,ntmps216;go_wp2_with (go_at_call 243;(refine(HB.out).mono ?_);rintro e w3 hres;unfold iG at hres;rw[if_pos hf] at hres;obtain⟨hb3,a1,a2,rfl,hs3⟩:=hres;have hN:=ku.of hb3;have hc0:=hN.c0;have hc1:=hN.c1;have hf0:=hN.f0;have hf1:=hN.f1;have hbel:=hN.bJ;have hlt:=hN.lt;clear hb3 hs3)
 refine bodyPost_ret (v:=.tuple #[.agg #[.string ⟨#[]⟩,.string ⟨#[]⟩],.slice none 0 0,.bool false]) (by simp[results,results216,go_sem,hc0,hc1]) rfl ⟨rfl,?_⟩
 first|exact hbel|exact hbel.setCell (by simp) _|exact(hbel.setCell (by simp) _).setCell (by simp) _
theorem XA(a:Option Addr)(n c:Nat)(l:List UInt8)(w:World)(ev:Value)(h:Bs w a n c l)(hn:n<=140737488351232)(hE:eO w ev)(hf:(l.takeWhile (· != 32)).length<n)(h9:(l.takeWhile (· != 32)).length<=9)(hbad:(Plain.decimal (l.takeWhile (· != 32))).2≠0\/((Plain.decimal (l.takeWhile (· != 32))).2=0/\((Plain.decimal (l.takeWhile (· != 32))).1<=((l.takeWhile (· != 32)).length:Int)+1\/(¬ (Plain.decimal (l.takeWhile (· != 32))).1<=((l.takeWhile (· != 32)).length:Int)+1/\(n:Int)<(Plain.decimal (l.takeWhile (· != 32))).1)))):Calls qp0 216 #[.slice a n c] w fun e w'=>e=.returned (.tuple #[.agg #[.string ⟨#[]⟩,.string ⟨#[]⟩],.slice none 0 0,.bool false])/\Below w.heap.size w w':=by
 have kc:=nD w;have HB:=ah (rW a n c l (w.heap.size+1) 1 32 (og w) (Below.bs (jC w) h) (lF w));have HD:=ah (fun w hE=>lM (l.takeWhile (· != 32)) w ev (by omega) hE);generalize hd:Plain.decimal (l.takeWhile (· != 32))=d at *
 obtain⟨x,k⟩:=d;have HE:=ah hE;have h9i:¬ (9:Int)<((l.takeWhile (· != 32)).length:Int):=by omega
 simp only at hbad;clear h hd hE;rcases hbad with hk|⟨hk,hx|⟨hx,hy⟩⟩
 .have hk2:(k != 0)=true:=by rw[bne_iff_ne];exact hk
  clear hk;go_enter func216,ntmps216;go_wp2_with (first|(go_at_call 243;(refine(HB.out).mono ?_);rintro e w3 hres;unfold iG at hres;rw[if_pos hf] at hres;obtain⟨hb3,a1,a2,rfl,hs3⟩:=hres;have hN:=ku.of hb3;have HN:=ah hN;have KY:=ah hs3;clear hb3 hs3 hN)|(with_reducible refine aT rfl _ _ _ rfl underlying22 underlying5 underlying9 rfl KY.out ?_)|(go_at_call 219;(refine(HD.out _ (by exact HE.out.below HN.out.bJ)).mono ?_);rintro e w4 ⟨rfl,hb4⟩;unfold nU;have hN:=HN.out.keep hb4;have hc0:=hN.c0;have hc1:=hN.c1;have hf0:=hN.f0;have hf1:=hN.f1;have hbel:=hN.bJ;have hlt:=hN.lt;clear hb4))
  refine bodyPost_ret (v:=.tuple #[.agg #[.string ⟨#[]⟩,.string ⟨#[]⟩],.slice none 0 0,.bool false]) (by simp[results,results216,go_sem,hc0,hc1]) rfl ⟨rfl,?_⟩
  first|exact hbel|exact hbel.setCell (by simp) _|exact(hbel.setCell (by simp) _).setCell (by simp) _
 .subst hk;go_enter func216,ntmps216;go_wp2_with (first|(go_at_call 243;(refine(HB.out).mono ?_);rintro e w3 hres;unfold iG at hres;rw[if_pos hf] at hres;obtain⟨hb3,a1,a2,rfl,hs3⟩:=hres;have hN:=ku.of hb3;have HN:=ah hN;have KY:=ah hs3;clear hb3 hs3 hN)|(with_reducible refine aT rfl _ _ _ rfl underlying22 underlying5 underlying9 rfl KY.out ?_)|(go_at_call 219;(refine(HD.out _ (by exact HE.out.below HN.out.bJ)).mono ?_);rintro e w4 ⟨rfl,hb4⟩;unfold nU;have hN:=HN.out.keep hb4;have hc0:=hN.c0;have hc1:=hN.c1;have hf0:=hN.f0;have hf1:=hN.f1;have hbel:=hN.bJ;have hlt:=hN.lt;clear hb4))
  refine bodyPost_ret (v:=.tuple #[.agg #[.string ⟨#[]⟩,.string ⟨#[]⟩],.slice none 0 0,.bool false]) (by simp[results,results216,go_sem,hc0,hc1]) rfl ⟨rfl,?_⟩
  first|exact hbel|exact hbel.setCell (by simp) _|exact(hbel.setCell (by simp) _).setCell (by simp) _
 .subst hk;go_enter func216,ntmps216;go_wp2_with (first|(go_at_call 243;(refine(HB.out).mono ?_);rintro e w3 hres;unfold iG at hres;rw[if_pos hf] at hres;obtain⟨hb3,a1,a2,rfl,hs3⟩:=hres;have hN:=ku.of hb3;have HN:=ah hN;have KY:=ah hs3;clear hb3 hs3 hN)|(with_reducible refine aT rfl _ _ _ rfl underlying22 underlying5 underlying9 rfl KY.out ?_)|(go_at_call 219;(refine(HD.out _ (by exact HE.out.below HN.out.bJ)).mono ?_);rintro e w4 ⟨rfl,hb4⟩;unfold nU;have hN:=HN.out.keep hb4;have hc0:=hN.c0;have hc1:=hN.c1;have hf0:=hN.f0;have hf1:=hN.f1;have hbel:=hN.bJ;have hlt:=hN.lt;clear hb4))
  refine bodyPost_ret (v:=.tuple #[.agg #[.string ⟨#[]⟩,.string ⟨#[]⟩],.slice none 0 0,.bool false]) (by simp[results,results216,go_sem,hc0,hc1]) rfl ⟨rfl,?_⟩
  first|exact hbel|exact hbel.setCell (by simp) _|exact(hbel.setCell (by simp) _).setCell (by simp) _
theorem oC(a:Option Addr)(n c:Nat)(l:List UInt8)(w:World)(ev:Value)(i X:Nat)(t u:List UInt8)(en fo:Bool)(k v:List UInt8)(h:Bs w a n c l)(hn:n<=140737488351232)(hE:eO w ev)(hi:(l.takeWhile (· != 32)).length=i)(hf:i<n)(h9:i<=9)(hd:Plain.decimal (l.takeWhile (· != 32))=((X:Int),0))(h1:i+1<X)(h2:X<=n)(ht:(l.take X).drop (i+1)=t)(hcs:∀ w,Calls qp0 244 #[.string ⟨t.toArray⟩,.string ⟨#[10]⟩] w fun e w'=>e=.returned (.tuple #[.string ⟨u.toArray⟩,.bool en])/\w=w')(hsc:∀ w,Calls qp0 221 #[.string ⟨u.toArray⟩,.string ⟨#[61]⟩] w fun e w'=>e=.returned (.tuple #[.string ⟨k.toArray⟩,.string ⟨v.toArray⟩,.bool fo])/\Below w.heap.size w w')(hno:en=false\/(en=true/\fo=false)\/(en=true/\fo=true/\k=[])):Calls qp0 216 #[.slice a n c] w fun e w'=>e=.returned (.tuple #[.agg #[.string ⟨#[]⟩,.string ⟨#[]⟩],.slice none 0 0,.bool false])/\Below w.heap.size w w':=by
 have kc:=nD w;have HB:=ah (rW a n c l (w.heap.size+1) 1 32 (og w) (Below.bs (jC w) h) (lF w));have HD:=ah (fun w hE=>lM (l.takeWhile (· != 32)) w ev (by omega) hE);rw[hd] at HD;have hcap:=h.cap;have hmax:=h.max;have hl:=h.len;have htl:t.length<=140737488351232:=by rw[<-ht,zW,zQ];omega
 have HE:=ah hE;have HH:=ah h;have HT:=ah ht;have HCS:=ah hcs;have HSC:=ah hsc;have HI:=ah hi;have h9i:¬ (9:Int)<(i:Int):=by omega
 have x1:¬ (X:Int)<=(i:Int)+1:=by omega
 have x2:¬ (n:Int)<(X:Int):=by omega
 clear h hd hE ht hcs hsc hi hl;rcases hno with rfl|⟨rfl,rfl⟩|⟨rfl,rfl,rfl⟩
 all_goals
  go_enter func216,ntmps216;go_wp2_with (first|(go_at_call 243;(refine(HB.out).mono ?_);rintro e w3 hres;unfold iG at hres;rw[HI.out,if_pos hf] at hres;obtain⟨hb3,a1,a2,rfl,hs3⟩:=hres;have hN:=ku.of hb3;have HN:=ah hN;have KY:=ah hs3;clear hb3 hs3 hN)|(with_reducible refine aT rfl _ _ _ rfl underlying22 underlying5 underlying9 rfl KY.out ?_)|(go_at_call 219;(refine(HD.out _ (by exact HE.out.below HN.out.bJ)).mono ?_);rintro e w4 ⟨rfl,hb4⟩;unfold nU;have Zl:=ah (HN.out.keep hb4);have HA:=ah (Below.bs Zl.out.bJ HH.out);clear hb4)|((refine gI rfl _ _ _ _ rfl underlying22 (by kernel_rfl) rfl HA.out (i+1) X .i64 .i64 rfl rfl (by omega) (by omega) ?_);intro a5 hb5;rw[HT.out] at hb5;have HS5:=ah hb5;clear hb5)|(with_reducible refine aT rfl _ _ _ rfl underlying22 underlying5 underlying9 rfl HS5.out ?_)|(go_at_call 244;(with_reducible refine(HCS.out _).mono ?_);rintro e w6 ⟨rfl,hw6⟩;obtain rfl:=hw6)|(go_at_call 221;(with_reducible refine(HSC.out _).mono ?_);rintro e w7 ⟨rfl,mq⟩;have hN:=Zl.out.keep mq;have hc0:=hN.c0;have hc1:=hN.c1;have hf0:=hN.f0;have hf1:=hN.f1;have hbel:=hN.bJ;have hlt:=hN.lt;clear mq))
  refine bodyPost_ret (v:=.tuple #[.agg #[.string ⟨#[]⟩,.string ⟨#[]⟩],.slice none 0 0,.bool false]) (by simp[results,results216,go_sem,hc0,hc1]) rfl ⟨rfl,?_⟩
  first|exact hbel|exact hbel.setCell (by simp) _|exact(hbel.setCell (by simp) _).setCell (by simp) _
def Io(w:World)(a:Option Addr)(n c X:Nat)(l k v:List UInt8)(e:Ending)(w':World):Prop :=∃ a',e=.returned (.tuple #[.agg #[.string ⟨k.toArray⟩,.string ⟨v.toArray⟩],.slice a' (n-X) (c-X),.bool true])/\(∀ w0,Bs w0 a n c l->Bs w0 a' (n-X) (c-X) (l.drop X))/\Below w.heap.size w w'
theorem aaY{w w':World}{b off n c X:Nat}{l k v:List UInt8}(h:Bs w (some ⟨b,off,none⟩) n c l)(hX:X<=n)(hne:¬ c=X)(hb:Below w.heap.size w w'):Io w (some ⟨b,off,none⟩) n c X l k v (.returned (.tuple #[.agg #[.string ⟨k.toArray⟩,.string ⟨v.toArray⟩],.slice (some ⟨b,off+X,none⟩) (n-X) (c-X),.bool true])) w':=by
 refine⟨_,rfl,fun w0 h=>?_,hb⟩;have:=H9 h X n hX (aY _);have hl:=h.len;rw[if_neg hne,MU (by omega)] at this;have e:(Option.map (fun x:Addr=>x.add (X*1)) (some ⟨b,off,none⟩))=some ⟨b,off+X,none⟩:=by rw[MK,qbK,Addr.add_lit]
 rw[e] at this;exact this
theorem Xc{w w':World}{b off n X:Nat}{l k v:List UInt8}(h:Bs w (some ⟨b,off,none⟩) n X l)(hX:X<=n)(hb:Below w.heap.size w w'):Io w (some ⟨b,off,none⟩) n X X l k v (.returned (.tuple #[.agg #[.string ⟨k.toArray⟩,.string ⟨v.toArray⟩],.slice (some ⟨b,off,none⟩) (n-X) 0,.bool true])) w':=by
 refine⟨some ⟨b,off,none⟩,?_,fun w0 h=>?_,hb⟩
 .rw[Nat.sub_self]
 .have:=H9 h X n hX (aY _);have hl:=h.len;rw[if_pos rfl,MU (by omega)] at this;exact this
theorem Wp(a:Option Addr)(n c:Nat)(l:List UInt8)(w:World)(ev:Value)(i X:Nat)(t u:List UInt8)(k v:List UInt8)(h:Bs w a n c l)(hn:n<=140737488351232)(hE:eO w ev)(hi:(l.takeWhile (· != 32)).length=i)(hf:i<n)(h9:i<=9)(hd:Plain.decimal (l.takeWhile (· != 32))=((X:Int),0))(h1:i+1<X)(h2:X<=n)(ht:(l.take X).drop (i+1)=t)(hcs:∀ w,Calls qp0 244 #[.string ⟨t.toArray⟩,.string ⟨#[10]⟩] w fun e w'=>e=.returned (.tuple #[.string ⟨u.toArray⟩,.bool true])/\w=w')(hsc:∀ w,Calls qp0 221 #[.string ⟨u.toArray⟩,.string ⟨#[61]⟩] w fun e w'=>e=.returned (.tuple #[.string ⟨k.toArray⟩,.string ⟨v.toArray⟩,.bool true])/\Below w.heap.size w w')(hk:k.isEmpty=false):Calls qp0 216 #[.slice a n c] w (Io w a n c X l k v):=by
 have kc:=nD w;have HB:=ah (rW a n c l (w.heap.size+1) 1 32 (og w) (Below.bs (jC w) h) (lF w));have HD:=ah (fun w hE=>lM (l.takeWhile (· != 32)) w ev (by omega) hE);rw[hd] at HD;have hcap:=h.cap;have hmax:=h.max;have hl:=h.len;have htl:t.length<=140737488351232:=by rw[<-ht,zW,zQ];omega
 have HE:=ah hE;have HH:=ah h;have HT:=ah ht;have HCS:=ah hcs;have HSC:=ah hsc;have HI:=ah hi;have h9i:¬ (9:Int)<(i:Int):=by omega
 have x1:¬ (X:Int)<=(i:Int)+1:=by omega
 have x2:¬ (n:Int)<(X:Int):=by omega
 clear h hd hE ht hcs hsc hi hl;obtain⟨b,off,rfl,_⟩:=HH.out.at 0 (by omega);by_cases hcX:c=X
 .subst hcX;go_enter func216,ntmps216;go_wp2_with (first|(go_at_call 243;(refine(HB.out).mono ?_);rintro e w3 hres;unfold iG at hres;rw[HI.out,if_pos hf] at hres;obtain⟨hb3,a1,a2,rfl,hs3⟩:=hres;have hN:=ku.of hb3;have HN:=ah hN;have KY:=ah hs3;clear hb3 hs3 hN)|(with_reducible refine aT rfl _ _ _ rfl underlying22 underlying5 underlying9 rfl KY.out ?_)|(go_at_call 219;(refine(HD.out _ (by exact HE.out.below HN.out.bJ)).mono ?_);rintro e w4 ⟨rfl,hb4⟩;unfold nU;have Zl:=ah (HN.out.keep hb4);have HA:=ah (Below.bs Zl.out.bJ HH.out);clear hb4)|((refine gI rfl _ _ _ _ rfl underlying22 (by kernel_rfl) rfl HA.out (i+1) c .i64 .i64 rfl rfl (by omega) (by omega) ?_);intro a5 hb5;rw[HT.out] at hb5;have HS5:=ah hb5;clear hb5)|(with_reducible refine aT rfl _ _ _ rfl underlying22 underlying5 underlying9 rfl HS5.out ?_)|(go_at_call 244;(with_reducible refine(HCS.out _).mono ?_);rintro e w6 ⟨rfl,hw6⟩;obtain rfl:=hw6)|(go_at_call 221;(with_reducible refine(HSC.out _).mono ?_);rintro e w7 ⟨rfl,mq⟩;have hN:=Zl.out.keep mq;have hc0:=hN.c0;have hc1:=hN.c1;have hf0:=hN.f0;have hf1:=hN.f1;have hbel:=hN.bJ;have hlt:=hN.lt;clear mq))
  have y1:(c:Int)<=n:=by omega
  have y2:(n:Int)<=c:=by omega
  have y3:(c:Int)<=c:=by omega
  have y4:(0:Int)<=(c:Int):=by omega
  have adv:=ah hbel;clear hbel hN;go_region
  go_wp2
  refine bodyPost_ret (v:=.tuple #[.agg #[.string ⟨k.toArray⟩,.string ⟨v.toArray⟩],.slice (some ⟨b,off,none⟩) (n-c) 0,.bool true]) (by simp[results,results216,go_sem,hc0,hc1] <;> omega) rfl ?_;exact Xc HH.out h2 (Below.seq ((adv.out.setCell (by simp) _).setCell (by simp) _) ((Below.refl _ _).drew))
 .go_enter func216,ntmps216;go_wp2_with (first|(go_at_call 243;(refine(HB.out).mono ?_);rintro e w3 hres;unfold iG at hres;rw[HI.out,if_pos hf] at hres;obtain⟨hb3,a1,a2,rfl,hs3⟩:=hres;have hN:=ku.of hb3;have HN:=ah hN;have KY:=ah hs3;clear hb3 hs3 hN)|(with_reducible refine aT rfl _ _ _ rfl underlying22 underlying5 underlying9 rfl KY.out ?_)|(go_at_call 219;(refine(HD.out _ (by exact HE.out.below HN.out.bJ)).mono ?_);rintro e w4 ⟨rfl,hb4⟩;unfold nU;have Zl:=ah (HN.out.keep hb4);have HA:=ah (Below.bs Zl.out.bJ HH.out);clear hb4)|((refine gI rfl _ _ _ _ rfl underlying22 (by kernel_rfl) rfl HA.out (i+1) X .i64 .i64 rfl rfl (by omega) (by omega) ?_);intro a5 hb5;rw[HT.out] at hb5;have HS5:=ah hb5;clear hb5)|(with_reducible refine aT rfl _ _ _ rfl underlying22 underlying5 underlying9 rfl HS5.out ?_)|(go_at_call 244;(with_reducible refine(HCS.out _).mono ?_);rintro e w6 ⟨rfl,hw6⟩;obtain rfl:=hw6)|(go_at_call 221;(with_reducible refine(HSC.out _).mono ?_);rintro e w7 ⟨rfl,mq⟩;have hN:=Zl.out.keep mq;have hc0:=hN.c0;have hc1:=hN.c1;have hf0:=hN.f0;have hf1:=hN.f1;have hbel:=hN.bJ;have hlt:=hN.lt;clear mq))
  have y1:(X:Int)<=n:=by omega
  have y2:(n:Int)<=c:=by omega
  have y3:(X:Int)<=c:=by omega
  have y4:(0:Int)<=X:=by omega
  have adv:=ah hbel;clear hbel hN;go_region
  go_wp2
  refine bodyPost_ret (v:=.tuple #[.agg #[.string ⟨k.toArray⟩,.string ⟨v.toArray⟩],.slice (some ⟨b,off+X,none⟩) (n-X) (c-X),.bool true]) (by simp[results,results216,go_sem,hc0,hc1]) rfl ?_;exact aaY HH.out h2 hcX (Below.seq ((adv.out.setCell (by simp) _).setCell (by simp) _) ((Below.refl _ _).drew))
end Go.Proofs.YtdbgldieilgnmaaGreatDoor
