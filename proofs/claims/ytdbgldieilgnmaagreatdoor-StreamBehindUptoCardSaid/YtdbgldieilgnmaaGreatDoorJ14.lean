/- J14 -/
import Derived.Test.YtdbgldieilgnmaaGreatDoorJ13
set_option linter.unusedVariables false
set_option linter.unusedSimpArgs false
set_option maxHeartbeats 8000000
set_option maxRecDepth 100000
namespace Go.Proofs.YtdbgldieilgnmaaGreatDoor
open Go.Proofs.Tryz
open Go.Proofs.Tryz renaming prog → qp0
open Go.ChangeShapes Go.WideShapes Go.ChangeAt Go.RowKit
section
namespace Gr
theorem gJ{w w':World}{base:Nat}{e:TypeId}{sz:Nat}{v:Value}{n:Nat}{xs:List Value}(h:w.ownsRow base e sz v n xs)(hk:∀ k,v.ownBlock=some k->w'.heap[k]? = w.heap[k]?):w'.ownsRow base e sz v n xs:=by
 obtain⟨h1,h2⟩:=h;refine⟨h1,?_⟩;rcases h2 with h2|⟨g,cap,cur,hv,hg,hh,r⟩
 .exact Or.inl h2
 .exact Or.inr ⟨g,cap,cur,hv,hg,by rw[hk g (by rw[hv];rfl)];exact hh,r⟩
theorem QZ{w:World}{B:Nat}{t:TypeId}{sz n:Nat}{v:Value}{xs:List Value}(h:w.ownsRow B t sz v n xs){b:Nat}(hb:v.ownBlock=some b):∃ cur,w.heap[b]? = some (.cells cur t (0,0)):=by
 rcases h.2 with⟨rfl,_⟩|⟨g,cap,cur,rfl,_,hh,_⟩
 .simp[Value.ownBlock] at hb
 .simp only[Value.ownBlock,Ba,MK] at hb;subst hb;exact⟨cur,hh⟩
theorem aN{w:World}{B:Nat}{t t':TypeId}{sz n:Nat}{v:Value}{xs:List Value}(h:w.ownsRow B t sz v n xs){b:Nat}{cs:Array Value}{fr:Nat×Nat}(hr:w.heap[b]? = some (.cells cs t' fr))(ht:t≠t'):v.ownBlock≠some b:=by
 intro e;obtain⟨cur,hc⟩:=QZ h e;rw[hr] at hc;simp only[Ba,Obj.cells.injEq] at hc;exact ht hc.2.1.symm
theorem aX{w w':World}{B:Nat}{t:TypeId}{sz n:Nat}{v:Value}{xs:List Value}(h:w.ownsRow B t sz v n xs){row:Option Nat}(hg:w.grownBy w' row)(hne:v.ownBlock=none\/v.ownBlock≠row):w'.ownsRow B t sz v n xs :=gJ h fun k hk=>hg.block k (h.lt k hk).2 (by rcases hne with hn|hn;rw[hn] at hk;cases hk;exact fun e=>hn (by rw[hk,e]))
theorem aU{w w':World}{b:Nat}{o:Obj}(h:w.heap[b]? = some o)(k:Below w.heap.size w w'):w'.heap[b]? = some o:=by
 rw[k.block b (fT.1 h).1];exact h
theorem aen{w:World}{b:Nat}{o:Obj}(h:w.heap[b]? = some o):b<w.heap.size:=(fT.1 h).1
theorem aZ{w w':World}{b:Nat}{o:Obj}{row:Option Nat}(h:w.heap[b]? = some o)(hg:w.grownBy w' row)(hne:some b≠row):w'.heap[b]? = some o:=by
 rw[hg.block b (aen h) hne];exact h
theorem aD(w:World)(b j:Nat)(v:Value):w.grownBy (w.setCell ⟨b,j,none⟩ v) (some b) :=⟨rfl,rfl,rfl,by simp,fun k hk hne=>RowKit.Below.heap_setCell _ _ _ _ (fun e=>hne (by simp only at e;rw[e]))⟩
theorem aO{w:World}{b j:Nat}{cs:Array Value}{t:TypeId}(h:w.heap[b]? = some (.cells cs t))(v:Value):(w.setCell ⟨b,j,none⟩ v).heap[b]? = some (.cells (cs.setIfInBounds j v) t):=by
 simp only[World.setCell];rw[qa3,h];simp
theorem aG{w:World}{b:Nat}{cs:Array Value}{t:TypeId}(h:w.heap[b]? = some (.cells cs t))(j:Nat):w.cell? ⟨b,j,none⟩=cs[j]?:=by rw[cell_of_row _ _ _ _ _ _ h]
theorem aS{w:World}{b:Nat}{cs:Array Value}{t:TypeId}(h:w.heap[b]? = some (.cells cs t))(j:Nat):w.frozen? ⟨b,j,none⟩=false:=frozen_of_row _ _ _ _ _ h
theorem Mp.yU{κ:Type}{mk:κ->Lit}{P:Program}{k:TypeId}{w:World}{b s:Nat}{f:κ->Option Value}(h:Mp mk P k w b s f){B:Nat}{t:TypeId}{sz n:Nat}{v:Value}{xs:List Value}(ho:w.ownsRow B t sz v n xs):some b≠v.ownBlock:=by
 intro e;obtain⟨cur,hc⟩:=QZ ho e.symm;obtain⟨D,⟨es,clock,h1,_⟩,_⟩:=h;rw[h1] at hc
 cases hc
section
variable {P:Program}
end
end Gr
end
section
open Go.Maps (Keyed)
namespace Ov
open Gr (aZ aD aN aO aX aG aS aU)
def mpV(b:Nat):Value:=.map (some b)
theorem aci:(qp0.info? 280).map (fun i=>(i.zero,i.size,i.bytes))=some (some (.map none),1,8):=by kernel_rfl
structure AO(w:World)(a:Option Addr)(c:Nat)(bs:List Nat)(wr:World):Prop where
 row:wr.heap[w.heap.size]? = some (.cells #[.slice a bs.length c] 279)
 own:wr.ownsRow (w.heap.size+1) 280 1 (.slice a bs.length c) bs.length (bs.map mpV)
 lv:∀ b∈bs,w.heap.size<b/\Lvl wr b 0 Plain.JN
 nd:bs.Nodup
 bJ:Below w.heap.size w wr
theorem AO.lt{w wr:World}{a:Option Addr}{c:Nat}{bs:List Nat}(h:AO w a c bs wr):w.heap.size<wr.heap.size:=(fT.1 h.row).1
theorem AO.grow{w wr w':World}{a:Option Addr}{c:Nat}{bs:List Nat}(h:AO w a c bs wr)(hb:Below wr.heap.size wr w'):AO w a c bs w' :=⟨by rw[hb.block _ h.lt];exact h.row,h.own.kept (Gr.below_grown hb none) (by cases (Value.slice a bs.length c).ownBlock <;> simp),
 fun b hbs=>⟨(h.lv b hbs).1,Gr.Mp.below (h.lv b hbs).2 hb (h.lv b hbs).2.lt⟩,h.nd,Below.seq h.bJ hb⟩
def rdW(wr:World):World:=(wr.alloc (.map #[] 0)).alloc (.cells #[.map (some wr.heap.size)] 280)
theorem zq(wr:World):Below wr.heap.size wr (rdW wr):=((Below.refl _ _).alloc (aY _) _).alloc (by simp) _
theorem aa9(wr:World):wh (rdW wr) 1 (some ⟨wr.heap.size+1,0,none⟩) 1 1 [mpV wr.heap.size]:=by
 have:=pq (wr.alloc (.map #[] 0)) 280 1 1 #[mpV wr.heap.size] rfl (by unfold maxLen;omega);have e:(wr.alloc (.map #[] 0)).heap.size=wr.heap.size+1:=by simp
 rw[e] at this;exact this
theorem aaD(wr:World):Lvl (rdW wr) wr.heap.size 0 Plain.JN:=by
 have h:=Gr.Mp.made Gr.mkS wr qp0 9;exact Gr.Mp.below h ((Below.refl _ _).alloc (aY _) _) h.lt
theorem AO.app{w wr w3:World}{a a':Option Addr}{c c':Nat}{bs:List Nat}(h:AO w a c bs wr)(hg:(rdW wr).grownBy w3 (Value.slice a bs.length c).ownBlock)(ho:w3.ownsRow (w.heap.size+1) 280 1 (.slice a' (bs.length+1) c') (bs.length+1) (bs.map mpV++[mpV wr.heap.size])):w3.heap[w.heap.size]? = some (.cells #[.slice a bs.length c] 279)/\AO w a' c' (bs++[wr.heap.size]) (w3.setCell ⟨w.heap.size,0,none⟩ (.slice a' (bs.length+1) c')):=by
 have h1:=h.grow (zq wr);have hr:w3.heap[w.heap.size]? = some (.cells #[.slice a bs.length c] 279):=aZ h1.row hg (fun e=>aN h1.own h1.row (by decide) e.symm);have hgs:=aD w3 w.heap.size 0 (.slice a' (bs.length+1) c');refine⟨hr,?_,?_,?_,?_,?_⟩
 .have:=aO hr (j:=0) (.slice a' (bs.length+1) c');simpa using this
 .have:=aX ho hgs (Or.inr (aN ho hr (by decide)));simpa using this
 .intro b hb;have hl:∀ {b:Nat},w.heap.size<b->Lvl (rdW wr) b 0 Plain.JN->Lvl (w3.setCell ⟨w.heap.size,0,none⟩ (.slice a' (bs.length+1) c')) b 0 Plain.JN:=fun {b} hlt hm=>by
   refine Gr.Mp.kept (Gr.Mp.kept hm hg ?_) hgs (fun e=>by have:=pQ e;omega);exact Gr.Mp.yU hm h1.own
  rcases UY.1 hb with hb|hb
  .exact⟨(h.lv b hb).1,hl (h.lv b hb).1 (h1.lv b hb).2⟩
  .rw[qbk] at hb;subst hb;exact⟨h.lt,hl h.lt (aaD wr)⟩
 .rw[List.nodup_append];refine⟨h.nd,by simp,fun x hx y hy=>?_⟩;rw[qbk] at hy;subst hy;have:=(h.lv x hx).2.lt;omega
 .have h2:Below w.heap.size w w3:=h1.bJ.grown hg (tT (qb8 h.lt) (zq wr).size) fun k hk=>by have:=(h1.own.lt k hk).1;omega
  exact h2.setCell (aY _) _
theorem AO.tab{w wr:World}{a:Option Addr}{c:Nat}{bs:List Nat}(h:AO w a c bs wr)(h4:bs.length=4):∃ (rb:Nat)(B:Nat->Nat),Tab wr w.heap.size rb c B (fun _=>Plain.JN) 0/\∀ j,j<4->w.heap.size<=B j:=by
 have hs:=rP h.own;rw[h4] at hs;have hbs:∀ j,j<4->∃ x,bs[j]? = some x:=fun j hj=>⟨bs[j]'(by omega),kM (by omega)⟩
 have hcell:∀ j x,bs[j]? = some x->∃ rb off,a=some ⟨rb,off,none⟩/\wr.cell? ⟨rb,off+j,none⟩=some (mpV x):=fun j x hx=>hs.2.2.2.1.at j _ (by rw[qcw,hx];rfl)
 have ho:=h.own;rw[h4] at ho;obtain⟨g,cap,cur,hv,_⟩:=(ho.2.resolve_left (by rintro⟨hv,h0⟩;omega));simp only[Value.slice.injEq,true_and] at hv;obtain⟨rfl,rfl⟩:=hv;refine⟨g,fun j=>bs.getD j 0,⟨?_,fun i hi=>?_,fun i hi=>?_,fun i j hi hj e=>?_,hs.2.1,hs.2.2.1⟩,fun j hj=>?_⟩
 .rw[aG h.row,h4];rfl
 .obtain⟨x,hx⟩:=hbs i hi;obtain⟨rb,off,he,hc⟩:=hcell i x hx;simp only[Ba,Addr.mk.injEq,and_true] at he;obtain⟨rfl,rfl⟩:=he;rw[lU] at hc;rw[hc];simp[List.getD,hx,mpV]
 .obtain⟨x,hx⟩:=hbs i hi;refine⟨0,aY _,?_⟩;simp only[List.getD,hx,Option.getD_some];exact(h.lv x (qbb hx)).2
 .obtain⟨x,hx⟩:=hbs i hi;obtain⟨y,hy⟩:=hbs j hj;simp only[List.getD,hx,hy,Option.getD_some] at e;subst e;exact(List.getElem?_inj (by omega) h.nd).1 (hx.trans hy.symm)
 .obtain⟨x,hx⟩:=hbs j hj;simp only[List.getD,hx,Option.getD_some];exact qb8 (h.lv x (qbb hx)).1
def ag3(w:World)(e:Ending)(w':World):Prop:=∃ (tb rb cap:Nat)(B:Nat->Nat),e=.returned (.pointer (some ⟨tb,0,none⟩))/\Tab w' tb rb cap B (fun _=>Plain.JN) 0/\(∀ j,j<4->w.heap.size<=B j)/\Below w.heap.size w w'
theorem aad(w:World):Calls qp0 189 #[.int .i64 4] w (ag3 w):=by
 have HN0:Hid (AO w none 0 [] (w.alloc (.cells #[.slice none 0 0] 279))):=ah ⟨JL,World.ownsRow_nil _ _ _ _,fun b hb=>(by cases hb),List.nodup_nil,(Below.refl _ _).alloc (aY _) _⟩;go_enter func189,ntmps189;go_wp2
 go_loopw [9] (fun i wr=>∃ (k:Nat)(a:Option Addr)(c:Nat)(bs:List Nat),k<=4/\i=.int .i64 k/\bs.length=k/\Hid (AO w a c bs wr)) (fun i _=>4-(intOf i).toNat)
 case atStart=>exact⟨0,none,0,[],by omega,rfl,rfl,HN0⟩
 case round =>
  obtain⟨k,a,c,bs,hk,rfl,hbl,HI⟩:=hrel;by_cases hlt:k<4
  .have hki:(k:Int)<4:=by omega
   have hcell:wr.cell? ⟨w.heap.size,0,none⟩=some (.slice a k c):=by rw[aG HI.out.row,hbl];rfl
   have Zp:=ah hbl;clear hbl;have hmm:=@run_makeMap qp0;go_upto_region 5 with(at_builtin;refine nJ rfl _ _ 277 rfl (w.heap.size+1) 280 _ 1 8 underlying277 aci rfl (by decide) (by decide) rfl (by have:=((HI.out.grow (zq wr)).own);rw[Zp.out] at this;exact this) rfl (aa9 wr) (by intro u hu;simp at hu;subst hu;rfl) (by omega) (by have:=HI.out.lt;simp;omega) ?_;intro a3 c3 w3 ho3 hg3;have HA:=HI.out.app (a':=a3) (c':=c3) (w3:=w3) (by rw[Zp.out];exact hg3) (by rw[Zp.out];exact ho3);rw[Zp.out] at HA;have HA:=ah HA;clear ho3 hg3;have hx1:=aG HA.out.1 0;have hx2:=aS HA.out.1 0)
   have HA2:=ah HA.out.2;clear hx1 hx2 HA;go_wp2
   exact⟨⟨k+1,a3,c3,bs++[wr.heap.size],by omega,by go_num,by rw[vG,Zp.out];rfl,HA2⟩,by simp[intOf];omega⟩
  .obtain rfl:k=4:=by omega
   have hki:¬ ((4:Nat):Int)<4:=by omega
   obtain⟨rb,B,h1,h2⟩:=HI.out.tab hbl;have HT:=ah h1;have HB:=ah h2;clear h1 h2;go_wp2
   go_ret;exact⟨_,rb,c,B,rfl,HT.out,HB.out,HI.out.bJ⟩
end Ov
end
section
open Go.Maps (Keyed)
namespace Ov
open Gr (aZ aD aN aO aX aG aS aU)
def Gb(m:Nat->Plain.Lv)(k:List UInt8):Nat->Option (List UInt8)
 | 0=>none
 | j+1=>match m j k with|some v=>some v|none=>Gb m k j
theorem PU(m:Nat->Plain.Lv)(k:List UInt8):Gb m k 4=Plain.JF (m 0) (m 1) (m 2) (m 3) k:=by
 unfold Plain.JF;simp only[Gb]
 cases m 3 k with
 | some v=>rfl
 | none=>cases m 2 k with
  | some v=>rfl
  | none=>cases m 1 k with
   | some v=>rfl
   | none=>cases m 0 k <;> rfl
theorem zeroCell(w:World):(zeroValue 283).run qp0 w=.ok (.agg #[.string ⟨#[]⟩,.bool false]) w:=by kernel_rfl
def abm(r:Option (List UInt8)):Value:=.tuple #[.string ⟨(r.getD []).toArray⟩,.bool r.isSome]
theorem Q6(tb rb cap N:Nat)(B:Nat->Nat)(m:Nat->Plain.Lv)(k:List UInt8)(w:World)(h:Tab w tb rb cap B m N)(hk:k.length<=9223372036854775807):Calls qp0 192 #[.pointer (some ⟨tb,0,none⟩),.string ⟨k.toArray⟩] w fun e w'=>e=.returned (abm (Plain.JF (m 0) (m 1) (m 2) (m 3) k))/\Below w.heap.size w w':=by
 rw[<-PU];generalize hr:Gb m k 4=r;have HR:=ah hr;clear hr;have HKEY:=ah (Gr.Jm (P:=qp0) underlying9 hk);have h0:=h.hd;have hc4:=h.c4;have hcm:=h.cm;have HT:=ah h;clear h;go_enter func192,ntmps192;go_wp2
 go_loopw [6] (fun i wr=>∃ j:Nat,j<=4/\i=.int .i64 ((j:Int) - 1)/\Hid (Gb m k j=r)/\Hid (Below w.heap.size w wr)) (fun i _=>(intOf i+1).toNat)
 case atStart=>exact⟨4,by omega,rfl,HR,ah (Below.refl _ _)⟩
 case round =>
  obtain⟨j,hj,rfl,hrj,hbel⟩:=hrel;have h0':=Below.keeps hbel.out _ _ h0
  cases j with
  | zero =>
   obtain rfl:r=none:=by rw[<-hrj.out];rfl
   go_wp2
   go_ret2;exact⟨rfl,hbel.out⟩
  | succ j =>
   have e:((j+1:Nat):Int) - 1=(j:Int):=by omega
   rw[e];clear e;have hj4:(j:Int)<4:=by omega
   have HTr:=ah (HT.out.below hbel.out);have h1:=HTr.out.row j (by omega);obtain⟨s,hs,hm⟩:=HTr.out.lv j (by omega);have HM:=ah hm;clear hm;have hrr:=hrj.out;simp only[Gb] at hrr
   cases Zo:m j k with
   | none =>
    rw[Zo] at hrr;have HRR:=ah hrr;have HV:Hid ((G6 (m j) k).getD (.agg #[.string ⟨#[]⟩,.bool false])=.agg #[.string ⟨#[]⟩,.bool false]):=ah (by simp[G6,Zo]);have HO:Hid ((G6 (m j) k).isSome=false):=ah (by simp[G6,Zo]);clear hrr Zo;go_wp2_with (at_lookup;refine Gr.mE rfl _ _ 280 rfl 283 Gr.lawS underlying280 (zeroCell _) rfl HM.out _ k rfl HKEY.out _ _ HV.out HO.out ?_)
    exact⟨⟨j,by omega,by go_num,HRR,ah (hbel.out.alloc hbel.out.size _)⟩,by simp[intOf]⟩
   | some v =>
    rw[Zo] at hrr;obtain rfl:some v=r:=hrr;have HV:Hid ((G6 (m j) k).getD (.agg #[.string ⟨#[]⟩,.bool false])=.agg #[.string ⟨v.toArray⟩,.bool false]):=ah (by simp[G6,Zo,clV]);have HO:Hid ((G6 (m j) k).isSome=true):=ah (by simp[G6,Zo]);clear Zo;go_wp2_with (at_lookup;refine Gr.mE rfl _ _ 280 rfl 283 Gr.lawS underlying280 (zeroCell _) rfl HM.out _ k rfl HKEY.out _ _ HV.out HO.out ?_)
    go_quiet (fail)
    go_wp2
    go_ret2;exact⟨rfl,Below.drewN (hbel.out.alloc hbel.out.size _) _⟩
theorem qM(tb rb cap N:Nat)(B:Nat->Nat)(m:Nat->Plain.Lv)(k:List UInt8)(plain most:Int)(w:World)(ev:Value)(h:Tab w tb rb cap B m N)(hk:k.length<=9223372036854775807)(hE:eO w ev)(x:List UInt8)(hx:Plain.JF (m 0) (m 1) (m 2) (m 3) k=Plain.full x)(hxl:x.length<=140737488351232):Calls qp0 191 #[.pointer (some ⟨tb,0,none⟩),.string ⟨k.toArray⟩,.int .i64 plain,.int .i64 most] w fun e w' =>
   e=.returned (.tuple #[.int .i64 (if x=[] then(plain,true) else((Plain.decimal x).1,decide ((Plain.decimal x).2=0)&&decide ((Plain.decimal x).1<=most))).1,.bool (if x=[] then(plain,true) else((Plain.decimal x).1,decide ((Plain.decimal x).2=0)&&decide ((Plain.decimal x).1<=most))).2])/\Below w.heap.size w w':=by
 have HG:=ah (Q6 tb rb cap N B m k w h hk);rw[hx] at HG;by_cases hx0:x=[]
 .rw[if_pos hx0];subst hx0;clear hx;have HG2:Hid (Calls qp0 192 #[.pointer (some ⟨tb,0,none⟩),.string ⟨k.toArray⟩] w fun e w'=>e=.returned (.tuple #[.string ⟨#[]⟩,.bool false])/\Below w.heap.size w w'):=HG;go_enter func191,ntmps191;go_wp2_with (go_at_call 192;refine(HG2.out).mono ?_;rintro e w1 ⟨rfl,h2⟩;have HB:=ah h2;clear h2)
  go_ret2;exact⟨rfl,HB.out⟩
 .rw[if_neg hx0];have HD:=ah (fun w1 (hb:Below w.heap.size w w1)=>lM x w1 ev hxl (hE.below hb));have HG2:Hid (Calls qp0 192 #[.pointer (some ⟨tb,0,none⟩),.string ⟨k.toArray⟩] w fun e w'=>e=.returned (.tuple #[.string ⟨x.toArray⟩,.bool true])/\Below w.heap.size w w'):=by
   unfold Plain.full at HG;rw[if_neg hx0] at HG;exact HG
  clear hx HG;generalize Plain.decimal x=d at *
  obtain⟨d1,d2⟩:=d;simp only[nU] at HD ⊢;go_enter func191,ntmps191;go_wp2_with (first|(go_at_call 192;refine(HG2.out).mono ?_;rintro e w1 ⟨rfl,h2⟩;have HB:=ah h2;clear h2)|(go_at_call 219;refine(HD.out _ HB.out).mono ?_;rintro e w2 ⟨rfl,h2⟩;have HB2:=ah (Below.seq HB.out h2);clear h2))
  all_goals
   go_ret2;refine⟨?_,HB2.out⟩
   simp_all
end Ov
end
namespace Ov
theorem MJ(l:List Pr)(k:Nat)(h:k<l.length):Plain.sparse (l.take (k+1))=(Plain.sparse (l.take k)||Lib.hasPrefix (l.getD k ([],[])).1 wP):=by
 unfold Plain.sparse;rw[Nh h,List.any_append];simp[List.getD,kM h]
theorem KJ(l:List Pr)(k:Nat)(h:k<l.length)(hp:Lib.hasPrefix (l.getD k ([],[])).1 wP=true):Plain.sparse l=true:=by
 unfold Plain.sparse;rw[List.any_eq_true];refine⟨l[k],VE h,?_⟩;have:l.getD k ([],[])=l[k]:=by simp[List.getD,kM h]
 rwa [this] at hp
theorem mH(a:Option Addr)(n c:Nat)(l:List Pr)(w:World)(h:uD w a n c l):Calls qp0 188 #[.slice a n c] w fun e w'=>e=.returned (.bool (Plain.sparse l))/\Below w.heap.size w w':=by
 have hll:=h.len;have hc:=h.cap;have hm:=h.max;have HL:=ah hll;clear hll;have HP:=ah h;clear h;generalize hr:Plain.sparse l=r;have HR:=ah hr;clear hr;go_enter func188,ntmps188;go_wp2
 go_loopw [7] (fun i wr=>∃ k:Nat,k<=n/\i=.int .i64 k/\Hid (Plain.sparse (l.take k)=false)/\Hid (Below w.heap.size w wr)) (fun i _=>n-(intOf i).toNat)
 case atStart=>exact⟨0,M8 _,rfl,ah rfl,ah (Below.refl _ _)⟩
 case round =>
  obtain⟨k,hkn,rfl,HS,HB⟩:=hrel;by_cases hlt:k<n
  .have hkl:k<l.length:=by rw[HL.out];exact hlt
   obtain⟨pb,off,rfl,h0,h1⟩:=(Below.Sq HB.out HP.out).at k hlt;have hki:(k:Int)<n:=by omega
   have ht:=MJ l k hkl;have hh:=KJ l k hkl;rw[HS.out,Bool.false_or] at ht;generalize hg:l.getD k ([],[])=g at h0 h1 ht hh;obtain⟨gk,gv⟩:=g;simp only at h0 h1 ht hh;have hpre:=Tryz.strings_HasPrefix ⟨gk.toArray⟩ ⟨wP.toArray⟩;simp only[qzl] at hpre
   cases hb:Lib.hasPrefix gk wP with
   | true =>
    rw[hb] at hpre hh;have HH:=ah (hh rfl);have aej:=ah hpre;clear hpre hh ht hb hg hkl;go_wp2_with (go_at_call 173;refine(aej.out _).mono ?_;rintro e w1 ⟨rfl,hw⟩;obtain rfl:=hw.symm)
    go_ret;exact⟨by rw[<-HR.out,HH.out];rfl,HB.out.alloc HB.out.size _⟩
   | false =>
    rw[hb] at hpre ht;have HT:=ah ht;have aej:=ah hpre;clear hpre hh ht hb hg hkl;go_wp2_with (go_at_call 173;refine(aej.out _).mono ?_;rintro e w1 ⟨rfl,hw⟩;obtain rfl:=hw.symm)
    exact⟨⟨k+1,by omega,by go_num,HT,ah (HB.out.alloc HB.out.size _)⟩,by simp[intOf];omega⟩
  .obtain rfl:k=n:=by omega
   have hki:¬ (k:Int)<k:=by omega
   have hs:=HS.out;rw[MU (by rw[HL.out];exact aY _),HR.out] at hs;subst hs;go_wp2
   go_ret;exact⟨rfl,HB.out⟩
theorem Pk(ty:UInt8)(name:List UInt8)(w:World)(hn:name.length<=140737488355328):Calls qp0 194 #[.int .u8 (ty.toNat:Int),.string ⟨name.toArray⟩] w fun e w'=>e=.returned (.int .i64 (Plain.oo ty name))/\w=w':=by
 have aec:=Tryz.strings_HasSuffix ⟨name.toArray⟩ ⟨#[47]⟩;have hz:(⟨name.toArray⟩:ByteArray).size<=9223372036854775807:=by show name.length<=_;omega
 simp only[qzl] at aec;have hty:∀ n:Nat,n<256->((ty=UInt8.ofNat n)↔((ty.toNat:Int)=n)):=fun n hn=>by
  constructor
  .rintro rfl;simp;omega
  .intro h;have h:ty.toNat=n:=by omega
   rw[<-h,UInt8.ofNat_toNat]
 have e48:=hty 48 (by omega);have e49:=hty 49 (by omega);have e50:=hty 50 (by omega);have e53:=hty 53 (by omega);have hb:=ty.toNat_lt;generalize hr:Plain.oo ty name=r;unfold Plain.oo at hr;simp only[show(48:UInt8)=UInt8.ofNat 48 from rfl,show(49:UInt8)=UInt8.ofNat 49 from rfl,show(50:UInt8)=UInt8.ofNat 50 from rfl,show(53:UInt8)=UInt8.ofNat 53 from rfl,e48,e49,e50,e53] at hr;have HR:=ah hr;generalize hs:Lib.hasSuffix name [47]=s at *
 have HS:=ah (fun w=>aec w hz);clear hr aec e48 e49 e50 e53 hty hs;go_enter func194,ntmps194;go_wp2_with (go_at_call 52;refine(HS.out _).mono ?_;rintro e w1 ⟨rfl,hw⟩;obtain rfl:=hw.symm)
 all_goals
  go_ret;refine⟨?_,rfl⟩;rw[<-HR.out]
  simp_all
end Ov
def aQ(t:Int×Int):Array Value:=#[.int .i64 t.1,.int .i64 t.2]
theorem Sy(t:Int×Int):∀ u∈(aQ t).toList,u.oneCell'=true:=by
 intro u hu;simp[aQ] at hu;rcases hu with h|h <;> subst h <;> rfl
theorem Yg(t:Int×Int):(qp0.info? 40).map (·.size)=some (aQ t).size:=by
 have h:(qp0.info? 40).map (·.size)=some 2:=by kernel_rfl
 rw[h];rfl
def uF(w:World):Prop:=∃ m:Int,w.cell? ⟨0,0,none⟩=some (.int .i64 m)
theorem uF.below{w w':World}(h:uF w)(k:Below w.heap.size w w'):uF w':=by
 obtain⟨m,h⟩:=h;exact⟨m,Below.keeps k _ _ h⟩
structure Tm1(w0 w:World)(c:Int×Int):Prop where
 row:w.heap[w0.heap.size]? = some (.cells (aQ c) 40 (0,0))
 bJ:Below w0.heap.size w0 w
theorem Tm1.keep{w0 w w':World}{c:Int×Int}(h:Tm1 w0 w c)(k:Below w.heap.size w w'):Tm1 w0 w' c :=⟨by rw[k.block _ (fT.1 h.row).1];exact h.row,Below.seq h.bJ k⟩
theorem Tm1.new(w:World):Tm1 w (w.alloc (.cells (aQ (0,0)) 40)) (0,0):=⟨heap_alloc_new w _,(Below.refl _ _).alloc (aY _) _⟩
theorem abh(s p:List UInt8):(Lib.cut s p).1.length<=s.length/\(Lib.cut s p).2.1.length<=s.length:=by
 unfold Lib.cut;split
 .exact⟨by simp;omega,by simp⟩
 .exact⟨aY _,by simp⟩
structure Qu(w0 w:World)(c:Int×Int)(g:Nat)(t:Int×Int):Prop extends Tm1 w0 w c where
 xZ:w.heap[g]? = some (.cells (aQ t) 40 (0,0))
 gt:w0.heap.size<g
theorem Qu.keep{w0 w w':World}{c t:Int×Int}{g:Nat}(h:Qu w0 w c g t)(k:Below w.heap.size w w'):Qu w0 w' c g t :=⟨h.toTm1.keep k,by rw[k.block _ (fT.1 h.xZ).1];exact h.xZ,h.gt⟩
theorem Qu.set{w0 w:World}{c t:Int×Int}{g:Nat}(h:Qu w0 w c g t)(t':Int×Int):Qu w0 (w.setRow g (aQ t')) c g t' :=⟨⟨by rw[setRow_other w g w0.heap.size _ (by have:=h.gt;omega)];exact h.row,Below.setRow h.bJ (qb8 h.gt) _⟩,setRow_heap _ _ _ _ _ _ h.xZ,h.gt⟩
theorem Tm1.lay{w0 w:World}{c:Int×Int}(h:Tm1 w0 w c)(t:Int×Int):Qu w0 ((w.alloc (.cells (aQ (0,0)) 40)).setRow w.heap.size (aQ t)) c w.heap.size t:=by
 have hlt:=(fT.1 h.row).1;have h2:Qu w0 (w.alloc (.cells (aQ (0,0)) 40)) c w.heap.size (0,0):=⟨h.keep ((Below.refl _ _).alloc (aY _) _),heap_alloc_new w _,hlt⟩;exact h2.set t
theorem Ym(p:List UInt8):((⟨p.toArray⟩:ByteArray)++⟨#[48,48,48,48,48,48,48,48,48]⟩).extract 0 9=⟨(Plain.iU p).toArray⟩:=by
 apply qb2;simp[qbB,Plain.iU]
theorem BN(l:List UInt8):0<=(Plain.decimal l).1:=by
 unfold Plain.decimal;split
 .exact U4 0
 .split
  .exact Int.natCast_nonneg _
  .first|exact U4 0|decide|simp
theorem XE(s p:List UInt8)(h:(Lib.cut s p).2.2=false):(Lib.cut s p).2.1=[]:=by
 unfold Lib.cut at h ⊢;split
 .rename_i h2;rw[if_pos h2] at h;cases h
 .rfl
theorem CX(s p:List UInt8):(Lib.trimPrefix s p).length<=s.length:=by
 unfold Lib.trimPrefix;split <;> simp
theorem BQ(l:List UInt8)(w:World)(ev:Value)(hl:l.length<=140737488351232)(hm:uF w)(he:eO w ev):Calls qp0 193 #[.string ⟨l.toArray⟩] w fun e w'=>e=.returned (.tuple #[.agg (aQ (Plain.jv l).1),.int .i64 (Plain.jv l).2])/\Below w.heap.size w w':=by
 generalize hr:Plain.jv l=r;have HR:=ah hr;clear hr;have qj:=ah Yg;have F6:=ah Sy;by_cases c0:64<l.length
 .obtain rfl:r=((0,0),21):=by rw[<-HR.out];exact if_pos c0
  have c0i:(64:Int)<(l.length:Int):=by omega
  clear HR c0;have HT:=ah (Tm1.new w);go_enter func193,ntmps193;go_upto_region 1 with fail
  have hT:Tm1 w (w.alloc (.cells #[.int .i64 0,.int .i64 0] 40)) (0,0):=HT.out;generalize w.alloc (.cells #[.int .i64 0,.int .i64 0] 40)=wa at *
  have HA:=ah hT;clear hT HT;go_wp2_with (with_reducible refine wpList_store_row rfl 40 _ _ rfl w.heap.size rfl (aQ (0,0)) rfl (aQ (0,0)) 40 HA.out.row rfl (qj.out _) (F6.out _) ?_)
  exact bodyPost_ret (results_cell_tmp rfl _ _ w.heap.size 40 (aQ (0,0)) (0,0) _ _ rfl rfl (setRow_heap _ _ _ _ _ _ HA.out.row) underlying40 rfl (qj.out _)) rfl ⟨rfl,Below.setRow HA.out.bJ (aY _) _⟩
 .have c0i:¬ (64:Int)<(l.length:Int):=by omega
  have hp:=Tryz.strings_CutPrefix ⟨l.toArray⟩ ⟨#[45]⟩;have hrr:=HR.out;unfold Plain.jv at hrr;rw[if_neg c0] at hrr;have hs1:=CX l [45];have hcl:=abh (Lib.trimPrefix l [45]) [46];have hcp:∀ w,Calls qp0 220 #[.string ⟨l.toArray⟩,.string ⟨#[45]⟩] w fun e w'=>e=.returned (.tuple #[.string ⟨(Lib.trimPrefix l [45]).toArray⟩,.bool (Lib.hasPrefix l [45])])/\w'=w:=hp
  clear hp;generalize Lib.trimPrefix l [45]=s1 at hrr hs1 hcl hcp;generalize Lib.hasPrefix l [45]=mi at hrr hcp;have hct:∀ w,uF w->Calls qp0 221 #[.string ⟨s1.toArray⟩,.string ⟨#[46]⟩] w fun e w'=>e=.returned (.tuple #[.string ⟨(Lib.cut s1 [46]).1.toArray⟩,.string ⟨(Lib.cut s1 [46]).2.1.toArray⟩,.bool (Lib.cut s1 [46]).2.2])/\Below w.heap.size w w':=by
   rintro w ⟨m,hm⟩;refine(Tryz.strings_Cut ⟨s1.toArray⟩ ⟨#[46]⟩ m w (by show s1.toArray.size<_;rw[rJ];omega) hm).mono ?_;rintro e w1 ⟨he,n,rfl⟩;exact⟨he,Below.drewN (Below.refl _ _) n⟩
  have hcn:=XE s1 [46];generalize Lib.cut s1 [46]=c at hrr hcl hct hcn;obtain⟨W,Pt,Dt⟩:=c;simp only at hrr hcl hct hcn;have HCN:=ah hcn;clear hcn;have Kr:Hid (Plain.lY Pt=true->Pt.all bg=true):=ah Plain.OP;have HCP:=ah hcp;have HCT:=ah hct;have HDW:=ah (fun w=>BR W w (by omega));have HDP:=ah (fun w=>BR Pt w (by omega));have HDE:Hid (∀ w,eO w ev->Calls qp0 219 #[.string ⟨W.toArray⟩] w fun e w'=>e=.returned (nU (Plain.decimal W))/\Below w.heap.size w w'):=ah (fun w h=>lM W w ev (by omega) h);have HM:=ah hm;have HE:=ah he;clear hcp hct hm he HR;have HRR:=ah hrr;clear hrr;have HT:=ah (Tm1.new w);go_enter func193,ntmps193;go_upto_region 1 with fail
  have hT:Tm1 w (w.alloc (.cells #[.int .i64 0,.int .i64 0] 40)) (0,0):=HT.out;generalize w.alloc (.cells #[.int .i64 0,.int .i64 0] 40)=wa at *
  have HA:=ah hT;clear hT HT;go_upto_region 5 with(first|(go_at_call 220;(with_reducible refine(HCP.out _).mono ?_);rintro e w1 ⟨rfl,hw⟩;obtain rfl:=hw.symm)|(go_at_call 221;(with_reducible refine(HCT.out _ (HM.out.below HA.out.bJ)).mono ?_);rintro e w1 ⟨rfl,hb1⟩;have HA1:=ah (HA.out.keep hb1);clear hb1))
  have HWD:Hid (Plain.lY W=Plain.lY W):=ah rfl;generalize Plain.lY Pt=bp at *
  generalize Plain.lY W=bw at *
  have early:∀ w2,Tm1 w w2 (0,0)->r=((0,0),20)->True:=fun _ _ _=>trivial
  clear early
  cases hbad:(Dt&&!bp||!bw) with
  | true =>
   have hr:r=((0,0),20):=by rw[<-HRR.out,if_pos hbad]
   subst hr;clear HRR HCN Kr HWD HDE
   cases Dt with
   | false =>
    cases bw with
    | true=>cases hbad
    | false =>
     clear hbad;go_wp2_with (first|(go_at_call 222;(with_reducible refine(HDW.out _).mono ?_);rintro e w2 ⟨rfl,hb2⟩;have HA2:=ah (HA1.out.keep hb2);clear hb2)|(with_reducible refine wpList_store_row rfl 40 _ _ rfl w.heap.size rfl (aQ (0,0)) rfl (aQ (0,0)) 40 HA2.out.row rfl (qj.out _) (F6.out _) ?_))
     exact bodyPost_ret (results_cell_tmp rfl _ _ w.heap.size 40 (aQ (0,0)) (0,0) _ _ rfl rfl (setRow_heap _ _ _ _ _ _ HA2.out.row) underlying40 rfl (qj.out _)) rfl ⟨rfl,Below.setRow HA2.out.bJ (aY _) _⟩
   | true =>
    cases bp with
    | false =>
     clear hbad;go_wp2_with (first|(go_at_call 222;(with_reducible refine(HDP.out _).mono ?_);rintro e w2 ⟨rfl,hb2⟩;have HA2:=ah (HA1.out.keep hb2);clear hb2)|(with_reducible refine wpList_store_row rfl 40 _ _ rfl w.heap.size rfl (aQ (0,0)) rfl (aQ (0,0)) 40 HA2.out.row rfl (qj.out _) (F6.out _) ?_))
     exact bodyPost_ret (results_cell_tmp rfl _ _ w.heap.size 40 (aQ (0,0)) (0,0) _ _ rfl rfl (setRow_heap _ _ _ _ _ _ HA2.out.row) underlying40 rfl (qj.out _)) rfl ⟨rfl,Below.setRow HA2.out.bJ (aY _) _⟩
    | true =>
     cases bw with
     | true=>cases hbad
     | false =>
      clear hbad;go_wp2_with (first|(go_at_call 222;(with_reducible refine(HDP.out _).mono ?_);rintro e w2 ⟨rfl,hb2⟩;have HA2:=ah (HA1.out.keep hb2);clear hb2)|(go_at_call 222;(with_reducible refine(HDW.out _).mono ?_);rintro e w3 ⟨rfl,hb3⟩;have Bq:=ah (HA2.out.keep hb3);clear hb3)|(with_reducible refine wpList_store_row rfl 40 _ _ rfl w.heap.size rfl (aQ (0,0)) rfl (aQ (0,0)) 40 Bq.out.row rfl (qj.out _) (F6.out _) ?_))
      exact bodyPost_ret (results_cell_tmp rfl _ _ w.heap.size 40 (aQ (0,0)) (0,0) _ _ rfl rfl (setRow_heap _ _ _ _ _ _ Bq.out.row) underlying40 rfl (qj.out _)) rfl ⟨rfl,Below.setRow Bq.out.bJ (aY _) _⟩
  | false =>
   have hbw:bw=true:=by revert hbad;cases Dt <;> cases bp <;> cases bw <;> simp
   subst hbw;have hpd:Pt.all bg=true:=by
    cases Dt with
    | false=>rw[HCN.out rfl];rfl
    | true=>exact Kr.out (by revert hbad;cases bp <;> simp)
   have hrr:=HRR.out;rw[if_neg (by rw[hbad];simp)] at hrr;have hd0:0<=(Plain.decimal W).1:=BN W;have hde:=HDE.out;generalize Plain.decimal W=d at hrr hd0 hde;obtain⟨d1,d2⟩:=d;simp only[nU] at hrr hd0 hde;have Z9:=ah hde;have aeO:=ah hpd;have Mf:=ah hrr;have hbp:Dt=true->bp=true:=by revert hbad;cases Dt <;> cases bp <;> simp
   clear HRR HCN Kr HWD HDE hrr hde hpd hbad;have h2:True:=trivial
   cases Dt
   case' false =>
    clear hbp;go_upto_region 7 with(go_at_call 222;(with_reducible refine(HDW.out _).mono ?_);rintro e w2 ⟨rfl,hb2⟩;have HA2:=ah (HA1.out.keep hb2);clear hb2)
    go_upto_region 8 with(go_at_call 219;(with_reducible refine(Z9.out _ (HE.out.below HA2.out.bJ)).mono ?_);rintro e w3 ⟨rfl,hb3⟩;have Bq:=ah (HA2.out.keep hb3);clear hb3)
    clear HA2 HA1 HA Z9 HCP HCT HDP HDW
   case' true =>
    obtain rfl:=hbp rfl;go_upto_region 7 with(first|(go_at_call 222;(with_reducible refine(HDP.out _).mono ?_);rintro e wp ⟨rfl,hbq⟩;have HAp:=ah (HA1.out.keep hbq);clear hbq)|(go_at_call 222;(with_reducible refine(HDW.out _).mono ?_);rintro e w2 ⟨rfl,hb2⟩;have HA2:=ah (HAp.out.keep hb2);clear hb2))
    go_upto_region 8 with(go_at_call 219;(with_reducible refine(Z9.out _ (HE.out.below HA2.out.bJ)).mono ?_);rintro e w3 ⟨rfl,hb3⟩;have Bq:=ah (HA2.out.keep hb3);clear hb3)
    clear HA2 HA1 HA Z9 HCP HCT HDP HDW
   all_goals
    by_cases h10:d2=10
    .subst h10;obtain rfl:r=((0,0),20):=by rw[<-Mf.out];rfl
     clear Mf;go_wp2_with (with_reducible refine wpList_store_row rfl 40 _ _ rfl w.heap.size rfl (aQ (0,0)) rfl (aQ (0,0)) 40 Bq.out.row rfl (qj.out _) (F6.out _) ?_)
     exact bodyPost_ret (results_cell_tmp rfl _ _ w.heap.size 40 (aQ (0,0)) (0,0) _ _ rfl rfl (setRow_heap _ _ _ _ _ _ Bq.out.row) underlying40 rfl (qj.out _)) rfl ⟨rfl,Below.setRow Bq.out.bJ (aY _) _⟩
    .by_cases h0:d2=0
     .subst h0;by_cases hbig:1099511627776<d1
      .obtain rfl:r=((0,0),11):=by rw[<-Mf.out,if_neg h10,if_pos (.inr hbig)]
       clear Mf;go_wp2_with (with_reducible refine wpList_store_row rfl 40 _ _ rfl w.heap.size rfl (aQ (0,0)) rfl (aQ (0,0)) 40 Bq.out.row rfl (qj.out _) (F6.out _) ?_)
       exact bodyPost_ret (results_cell_tmp rfl _ _ w.heap.size 40 (aQ (0,0)) (0,0) _ _ rfl rfl (setRow_heap _ _ _ _ _ _ Bq.out.row) underlying40 rfl (qj.out _)) rfl ⟨rfl,Below.setRow Bq.out.bJ (aY _) _⟩
      .have hrr:=Mf.out;rw[if_neg h10,if_neg (by rintro (h|h);exact h rfl;exact hbig h)] at hrr;have vR:=ah hrr;clear Mf hrr;have hbig':d1<=1099511627776:=by omega
       clear hbig;go_upto_region 12 with fail
       have hsz:((⟨Pt.toArray⟩:ByteArray)++⟨#[48,48,48,48,48,48,48,48,48]⟩).size=Pt.length+9:=by simp[ByteArray.size_append,ByteArray.size]
       have hat:∀ w,Calls qp0 223 #[.string ⟨(Plain.iU Pt).toArray⟩] w fun e w'=>e=.returned (.tuple #[.int .i64 (bD 0 (Plain.iU Pt):Nat),.nilIface])/\Below w.heap.size w w':=fun w=>by
        refine(Tryz.strconv_Atoi ⟨(Plain.iU Pt).toArray⟩ (bD 0 (Plain.iU Pt):Nat) (by show(Plain.iU Pt).toArray.size<=18;rw[rJ,Plain.vS];decide) (Plain.Xv _ (by intro h;have h2:=Plain.vS Pt;have h3:Plain.iU Pt=[]:=h;rw[h3] at h2;cases h2) (Plain.Dh Pt aeO.out)) w).mono ?_;rintro e w1 ⟨he,t,rfl⟩;exact⟨he,bytesWorld_below w _ _⟩
       have hnl:=Plain.aaJ Pt aeO.out;go_upto_region 13 with fail
       rw[Ym];generalize Plain.iU Pt=nine at *
       generalize bD 0 nine=N at *
       have HAT:=ah hat;clear hat hsz;go_upto_region 14 with(go_at_call 223;(with_reducible refine(HAT.out _).mono ?_);rintro e w4 ⟨rfl,hb4⟩;have HA4:=ah (Bq.out.keep hb4);clear hb4)
       clear HAT Bq;go_upto_region 15 with(with_reducible refine wpList_store_row rfl 40 _ _ rfl w4.heap.size rfl (aQ (d1,(N:Int))) rfl (aQ (0,0)) 40 (heap_alloc_new w4 _) rfl (qj.out _) (F6.out _) ?_)
       have hT2:Qu w ((w4.alloc (.cells #[.int .i64 0,.int .i64 0] 40)).setRow w4.heap.size (aQ (d1,(N:Int)))) (0,0) w4.heap.size (d1,(N:Int)):=HA4.out.lay _;generalize (w4.alloc (.cells #[.int .i64 0,.int .i64 0] 40)).setRow w4.heap.size (aQ (d1,(N:Int)))=w5 at *
       clear HA4;generalize w4.heap.size=g at *
       have HB:=ah hT2;clear hT2
       cases mi
       case' false =>
        have rY:Hid ((if Plain.valid (d1,(N:Int)).1 (d1,(N:Int)).2=true then((d1,(N:Int)),0) else((0,0),11))=r):=vR;clear vR;have HB2:=HB;clear HB;obtain⟨tm,EI⟩:∃ tm:Int×Int,(d1,(N:Int))=tm:=⟨_,rfl⟩
        have Jc:Hid ((if Plain.valid tm.1 tm.2=true then(tm,0) else((0,0),11))=r):=by subst EI;exact rY
        rw[EI] at HB2;clear EI rY
       case' true =>
        rcases Classical.em (9<Pt.length) with h9|h9
        case' inl =>
         have hex:(⟨Pt.toArray⟩:ByteArray).extract 9 Pt.length=⟨(Pt.drop 9).toArray⟩:=by
          apply qb2;simp[qbB];exact MU (by simp)
         have htr:∀ w,Calls qp0 224 #[.string ⟨(Pt.drop 9).toArray⟩,.string ⟨#[48]⟩] w fun e w'=>e=.returned (.string ⟨(Lib.trimB (Pt.drop 9) 48).toArray⟩)/\Below w.heap.size w w':=fun w=>by
          refine(Tryz.strings_Trim_one ⟨(Pt.drop 9).toArray⟩ 48 (by decide) w (by show(Pt.drop 9).toArray.size<=_;rw[rJ,zW];omega)).mono ?_;rintro e w1 ⟨he,rfl|rfl⟩
          .exact⟨he,Below.refl _ _⟩
          .exact⟨he,(Below.refl _ _).drew⟩
         have aeB:Plain.vY Pt=!(Lib.trimB (Pt.drop 9) 48).isEmpty:=by simp[Plain.vY,h9]
         generalize Lib.trimB (Pt.drop 9) 48=Z at *
         have HTR:=ah htr;clear htr
         cases hze:Z.isEmpty
         case' true =>
          have hmo:Plain.vY Pt=false:=by rw[aeB,hze];rfl
          by_cases hn:0<((N:Int))
          case' pos =>
           have rY:Hid ((if Plain.valid ((-d1 - 1,1000000000-((N:Int)))).1 ((-d1 - 1,1000000000-((N:Int)))).2=true then((-d1 - 1,1000000000-((N:Int))),0) else((0,0),11))=r):=ah (by have h:=vR.out;simp only[Plain.vN,hmo,if_true,jI,if_false,if_pos hn] at h;exact h);clear vR;go_upto_region 19 with(first|(go_at_call 224;(try rw[hex]);(with_reducible refine(HTR.out _).mono ?_);rintro e wt ⟨rfl,hbt⟩;have Zt:=ah (HB.out.keep hbt);clear hbt)|(with_reducible refine wpList_store_row rfl 40 _ _ rfl g rfl (aQ (-d1,(0:Int))) rfl (aQ (d1,(N:Int))) 40 Zt.out.xZ rfl (qj.out _) (F6.out _) ?_))
           go_upto_region 21 with(with_reducible refine wpList_store_row rfl 40 _ _ rfl g rfl (aQ (-d1 - 1,1000000000-((N:Int)))) rfl (aQ (-d1,(0:Int))) 40 (Zt.out.set (-d1,(0:Int))).xZ rfl (qj.out _) (F6.out _) ?_)
           have Rm:Qu w ((wt.setRow g (aQ (-d1,(0:Int)))).setRow g (aQ (-d1 - 1,1000000000-((N:Int))))) (0,0) g (-d1 - 1,1000000000-((N:Int))):=(Zt.out.set _).set _
           generalize (wt.setRow g (aQ (-d1,(0:Int)))).setRow g (aQ (-d1 - 1,1000000000-((N:Int))))=w7 at *
           have HB2:=ah Rm;clear Rm HB;obtain⟨tm,EI⟩:∃ tm:Int×Int,((-d1 - 1,1000000000-((N:Int))):Int×Int)=tm:=⟨_,rfl⟩
           have Jc:Hid ((if Plain.valid tm.1 tm.2=true then(tm,0) else((0,0),11))=r):=by subst EI;exact rY
           rw[EI] at HB2;clear EI rY
          case' neg =>
           have rY:Hid ((if Plain.valid ((-d1,(0:Int))).1 ((-d1,(0:Int))).2=true then((-d1,(0:Int)),0) else((0,0),11))=r):=ah (by have h:=vR.out;simp only[Plain.vN,hmo,if_true,jI,if_false,if_neg hn] at h;exact h);clear vR;go_upto_region 21 with(first|(go_at_call 224;(try rw[hex]);(with_reducible refine(HTR.out _).mono ?_);rintro e wt ⟨rfl,hbt⟩;have Zt:=ah (HB.out.keep hbt);clear hbt)|(with_reducible refine wpList_store_row rfl 40 _ _ rfl g rfl (aQ (-d1,(0:Int))) rfl (aQ (d1,(N:Int))) 40 Zt.out.xZ rfl (qj.out _) (F6.out _) ?_))
           have Rm:Qu w (wt.setRow g (aQ (-d1,(0:Int)))) (0,0) g (-d1,(0:Int)):=Zt.out.set _
           generalize wt.setRow g (aQ (-d1,(0:Int)))=w7 at *
           have HB2:=ah Rm;clear Rm HB;obtain⟨tm,EI⟩:∃ tm:Int×Int,((-d1,(0:Int)):Int×Int)=tm:=⟨_,rfl⟩
           have Jc:Hid ((if Plain.valid tm.1 tm.2=true then(tm,0) else((0,0),11))=r):=by subst EI;exact rY
           rw[EI] at HB2;clear EI rY
         case' false =>
          have hmo:Plain.vY Pt=true:=by rw[aeB,hze];rfl
          have h9i:(9:Int)<(Pt.length:Int):=by omega
          have hrx:=vR.out;simp only[Plain.vN,hmo,if_true] at hrx;clear vR;have vR:=ah hrx;clear hrx;go_upto_region 18 with(go_at_call 224;(try rw[hex]);(with_reducible refine(HTR.out _).mono ?_);rintro e wt ⟨rfl,hbt⟩;have Zt:=ah (HB.out.keep hbt);clear hbt)
          have hM1:0<(N:Int)+1:=by omega
          have hM2:(N:Int)+1<=1000000000:=by omega
          generalize (N:Int)+1=M at *
          by_cases hn:0<(M)
          case neg=>exact absurd hM1 hn
          case' pos =>
           have rY:Hid ((if Plain.valid ((-d1 - 1,1000000000-(M))).1 ((-d1 - 1,1000000000-(M))).2=true then((-d1 - 1,1000000000-(M)),0) else((0,0),11))=r):=ah (by have h:=vR.out;simp only[Plain.vN,hmo,if_true,jI,if_false,if_pos hn] at h;exact h);clear vR;go_upto_region 19 with(first|(with_reducible refine wpList_store_row rfl 40 _ _ rfl g rfl (aQ (-d1,(0:Int))) rfl (aQ (d1,(N:Int))) 40 Zt.out.xZ rfl (qj.out _) (F6.out _) ?_))
           go_upto_region 21 with(with_reducible refine wpList_store_row rfl 40 _ _ rfl g rfl (aQ (-d1 - 1,1000000000-(M))) rfl (aQ (-d1,(0:Int))) 40 (Zt.out.set (-d1,(0:Int))).xZ rfl (qj.out _) (F6.out _) ?_)
           have Rm:Qu w ((wt.setRow g (aQ (-d1,(0:Int)))).setRow g (aQ (-d1 - 1,1000000000-(M)))) (0,0) g (-d1 - 1,1000000000-(M)):=(Zt.out.set _).set _
           generalize (wt.setRow g (aQ (-d1,(0:Int)))).setRow g (aQ (-d1 - 1,1000000000-(M)))=w7 at *
           have HB2:=ah Rm;clear Rm HB;obtain⟨tm,EI⟩:∃ tm:Int×Int,((-d1 - 1,1000000000-(M)):Int×Int)=tm:=⟨_,rfl⟩
           have Jc:Hid ((if Plain.valid tm.1 tm.2=true then(tm,0) else((0,0),11))=r):=by subst EI;exact rY
           rw[EI] at HB2;clear EI rY
        case' inr =>
         have hmo:Plain.vY Pt=false:=by simp[Plain.vY,h9]
         by_cases hn:0<((N:Int))
         case' pos =>
          have rY:Hid ((if Plain.valid ((-d1 - 1,1000000000-((N:Int)))).1 ((-d1 - 1,1000000000-((N:Int)))).2=true then((-d1 - 1,1000000000-((N:Int))),0) else((0,0),11))=r):=ah (by have h:=vR.out;simp only[Plain.vN,hmo,if_true,jI,if_false,if_pos hn] at h;exact h);clear vR;go_upto_region 19 with(first|(with_reducible refine wpList_store_row rfl 40 _ _ rfl g rfl (aQ (-d1,(0:Int))) rfl (aQ (d1,(N:Int))) 40 HB.out.xZ rfl (qj.out _) (F6.out _) ?_))
          go_upto_region 21 with(with_reducible refine wpList_store_row rfl 40 _ _ rfl g rfl (aQ (-d1 - 1,1000000000-((N:Int)))) rfl (aQ (-d1,(0:Int))) 40 (HB.out.set (-d1,(0:Int))).xZ rfl (qj.out _) (F6.out _) ?_)
          have Rm:Qu w ((w5.setRow g (aQ (-d1,(0:Int)))).setRow g (aQ (-d1 - 1,1000000000-((N:Int))))) (0,0) g (-d1 - 1,1000000000-((N:Int))):=(HB.out.set _).set _
          generalize (w5.setRow g (aQ (-d1,(0:Int)))).setRow g (aQ (-d1 - 1,1000000000-((N:Int))))=w7 at *
          have HB2:=ah Rm;clear Rm HB;obtain⟨tm,EI⟩:∃ tm:Int×Int,((-d1 - 1,1000000000-((N:Int))):Int×Int)=tm:=⟨_,rfl⟩
          have Jc:Hid ((if Plain.valid tm.1 tm.2=true then(tm,0) else((0,0),11))=r):=by subst EI;exact rY
          rw[EI] at HB2;clear EI rY
         case' neg =>
          have rY:Hid ((if Plain.valid ((-d1,(0:Int))).1 ((-d1,(0:Int))).2=true then((-d1,(0:Int)),0) else((0,0),11))=r):=ah (by have h:=vR.out;simp only[Plain.vN,hmo,if_true,jI,if_false,if_neg hn] at h;exact h);clear vR;go_upto_region 21 with(first|(with_reducible refine wpList_store_row rfl 40 _ _ rfl g rfl (aQ (-d1,(0:Int))) rfl (aQ (d1,(N:Int))) 40 HB.out.xZ rfl (qj.out _) (F6.out _) ?_))
          have Rm:Qu w (w5.setRow g (aQ (-d1,(0:Int)))) (0,0) g (-d1,(0:Int)):=HB.out.set _
          generalize w5.setRow g (aQ (-d1,(0:Int)))=w7 at *
          have HB2:=ah Rm;clear Rm HB;obtain⟨tm,EI⟩:∃ tm:Int×Int,((-d1,(0:Int)):Int×Int)=tm:=⟨_,rfl⟩
          have Jc:Hid ((if Plain.valid tm.1 tm.2=true then(tm,0) else((0,0),11))=r):=by subst EI;exact rY
          rw[EI] at HB2;clear EI rY
       all_goals
        have OI:Hid (∀ w,Calls qp0 54 #[.agg (aQ tm)] w fun e w'=>e=.returned (.bool (Plain.valid tm.1 tm.2))/\Below w.heap.size w w'):=ah (fun w=>TQ _ _ w)
        cases hv:Plain.valid tm.1 tm.2 with
        | false =>
         rw[hv] at OI;obtain rfl:r=((0,0),11):=by rw[<-Jc.out,if_neg (by rw[hv];simp)]
         clear Jc hv;go_wp2_with (first|(with_reducible refine wpList_load_row rfl _ _ rfl g rfl 40 (aQ tm) (0,0) _ HB2.out.xZ underlying40 rfl (qj.out _) ?_)|(go_at_call 54;(with_reducible refine(OI.out _).mono ?_);rintro e w6 ⟨rfl,hb6⟩;have HC:=ah (HB2.out.keep hb6);clear hb6)|(with_reducible refine wpList_store_row rfl 40 _ _ rfl w.heap.size rfl (aQ (0,0)) rfl (aQ (0,0)) 40 HC.out.row rfl (qj.out _) (F6.out _) ?_))
         exact bodyPost_ret (results_cell_tmp rfl _ _ w.heap.size 40 (aQ (0,0)) (0,0) _ _ rfl rfl (setRow_heap _ _ _ _ _ _ HC.out.row) underlying40 rfl (qj.out _)) rfl ⟨rfl,Below.setRow HC.out.bJ (aY _) _⟩
        | true =>
         rw[hv] at OI;obtain rfl:r=(tm,0):=by rw[<-Jc.out,if_pos hv]
         clear Jc hv;go_wp2_with (first|(go_at_call 54;(with_reducible refine(OI.out _).mono ?_);rintro e w6 ⟨rfl,hb6⟩;have HC:=ah (HB2.out.keep hb6);clear hb6)|(with_reducible first|refine wpList_load_row rfl _ _ rfl g rfl 40 (aQ tm) (0,0) _ HC.out.xZ underlying40 rfl (qj.out _) ?_|refine wpList_load_row rfl _ _ rfl g rfl 40 (aQ tm) (0,0) _ HB2.out.xZ underlying40 rfl (qj.out _) ?_|refine wpList_store_row rfl 40 _ _ rfl w.heap.size rfl (aQ tm) rfl (aQ (0,0)) 40 HC.out.row rfl (qj.out _) (F6.out _) ?_))
         exact bodyPost_ret (results_cell_tmp rfl _ _ w.heap.size 40 (aQ tm) (0,0) _ _ rfl rfl (setRow_heap _ _ _ _ _ _ HC.out.row) underlying40 rfl (qj.out _)) rfl ⟨rfl,Below.setRow HC.out.bJ (aY _) _⟩
     .obtain rfl:r=((0,0),11):=by rw[<-Mf.out,if_neg h10,if_pos (.inl h0)]
      clear Mf;go_wp2_with (with_reducible refine wpList_store_row rfl 40 _ _ rfl w.heap.size rfl (aQ (0,0)) rfl (aQ (0,0)) 40 Bq.out.row rfl (qj.out _) (F6.out _) ?_)
      exact bodyPost_ret (results_cell_tmp rfl _ _ w.heap.size 40 (aQ (0,0)) (0,0) _ _ rfl rfl (setRow_heap _ _ _ _ _ _ Bq.out.row) underlying40 rfl (qj.out _)) rfl ⟨rfl,Below.setRow Bq.out.bJ (aY _) _⟩
def hFT(F:Int)(T:UInt8):Hd:={Hd.zero with form:=F,ty:=T}
theorem bY{P:Program}(t:TypeId){e:TypeId}{n:Nat}(ht:P.underlying t=some (.array n e))(hsz:(P.info? e).map (·.size)=some 1)(g:Nat)(lo hi:Option Int)(L M:Nat)(hL:match lo with|some p=>p=(L:Int)|none=>L=0)(hM:match hi with|some p=>p=(M:Int)|none=>M=n)(h1:L<=M)(h2:M<=n)(h3:L<n)(w:World):(Instr.sliceAt t (.pointer (some ⟨g,0,none⟩)) (lo.map (Value.int .i64)) (hi.map (Value.int .i64)) none).run P w=.ok (.slice (some ⟨g,L,none⟩) (M-L) (n-L)) w:=by
 obtain⟨i,hi',hs'⟩:=zA.1 hsz;have hne:¬ n=L:=by omega
 have e1:(L:Int)<=M:=by omega
 have e2:(M:Int)<=n:=by omega
 have e3:(L:Int)<=n:=by omega
 have f3:L<=n:=by omega
 have ha:(Addr.add ⟨g,0,none⟩ L)=(⟨g,L,none⟩:Addr):=by rw[Addr.add_lit,lU]
 cases lo <;> cases hi <;> simp only at hL hM
 all_goals first|subst hL|skip
 all_goals first|subst hM|skip
 all_goals simp[Instr.sliceAt,Instr.sureAddr,Instr.sliceBounds,Instr.sliceBound,run_underlying ht,sizeOf,typeInfo,hi',hs',asIntOf,hne,Result.andThen, *]
section
structure Two(w:World)(t:TypeId)(x y:List UInt8)(wr:World):Prop where
 bJ:Below w.heap.size w wr
 r0:wr.heap[w.heap.size]? = some (.cells (aL x) t (0,0))
 r1:wr.heap[w.heap.size+1]? = some (.cells (aL y) t (0,0))
theorem Two.new(w:World)(t:TypeId)(x y:List UInt8):Two w t x y ((w.alloc (.cells (aL x) t)).alloc (.cells (aL y) t)) :=⟨((Below.refl _ _).alloc (aY _) _).alloc (by simp) _,heap_alloc2_old _ _ _,heap_alloc2_new _ _ _⟩
theorem Two.keep{w wr w':World}{t:TypeId}{x y:List UInt8}(h:Two w t x y wr)(k:Below wr.heap.size wr w'):Two w t x y w':=by
 refine⟨Below.seq h.bJ k,?_,?_⟩
 .rw[k.block _ (fT.1 h.r0).1];exact h.r0
 .rw[k.block _ (fT.1 h.r1).1];exact h.r1
theorem Two.set{w wr:World}{t:TypeId}{x y:List UInt8}(h:Two w t x y wr)(k:Nat)(b:UInt8):Two w t (x.set k b) y (wr.setCell ⟨w.heap.size,k,none⟩ (.int .u8 (b.toNat:Int))):=by
 refine⟨h.bJ.setCell (by simp) _,?_,?_⟩
 .rw[heap_setCell_same _ _ _ _ _ _ h.r0,show(Value.int .u8 (b.toNat:Int))=jJ b from rfl,wQ]
 .rw[heap_setCell_other _ _ _ _ (by simp)];exact h.r1
theorem Two.agf{w wr:World}{t:TypeId}{x y:List UInt8}(h:Two w t x y wr)(k:Nat)(b:UInt8)(v:Int)(hv:(b.toNat:Int)=v):Two w t (x.set k b) y (wr.setCell ⟨w.heap.size,k,none⟩ (.int .u8 v)):=by
 rw[<-hv];exact h.set k b
theorem Two.row{w wr:World}{t:TypeId}{x y:List UInt8}(h:Two w t x y wr)(z:List UInt8):Two w t z y (wr.setRow w.heap.size (aL z)):=by
 refine⟨Below.setRow h.bJ (aY _) _,setRow_heap _ _ _ _ _ _ h.r0,?_⟩;rw[setRow_other _ _ _ _ (by omega)];exact h.r1
theorem Two.cell{w wr:World}{t:TypeId}{x y:List UInt8}(h:Two w t x y wr)(k:Nat)(hk:k<x.length):wr.cell? ⟨w.heap.size,k,none⟩=some (.int .u8 ((x.getD k 0).toNat:Int)):=by
 rw[cell_of_row _ _ _ _ _ _ h.r0,tF _ _ hk]
theorem Two.ac8{w wr:World}{t:TypeId}{x y:List UInt8}(h:Two w t x y wr)(k:Nat):wr.frozen? ⟨w.heap.size,k,none⟩=false:=frozen_of_row _ _ _ _ _ h.r0
section
variable {P:Program}{ops:Array Oper}{rest:List Oper}{o:Oper}{a:Act}{w:World}{Q:Exit->Act->World->Prop}
theorem qV(hgd:o.guard=none)(d s:Operand)(dT sT:TypeId)(ho:o.op=.call {callee:=.builtin .copy,args:=#[d,s],argTypes:=#[dT,sT]})(elem:TypeId)(hu:P.underlying dT=some (.slice elem))(hsz:(P.info? elem).map (·.size)=some 1)(g off dLen dCap:Nat)(hd:a.eval d=.slice (some ⟨g,off,none⟩) dLen dCap){sp:Option Addr}{n c:Nat}(hs:a.eval s=.slice sp n c)(l m:List UInt8){t:TypeId}(hg:w.heap[g]? = some (.cells (aL l) t (0,0)))(hm:Bs w sp n c m)(h0:0<n)(hn:n<=dLen)(hfit:off+n<=l.length)(h:wpList P ops Q rest (a.put o.dst (goInt n)) (w.setRow g (aL (l.take off++m++l.drop (off+n))))):wpList P ops Q (o::rest) a w:=by
 obtain rfl:=hm.len
 cases sp with
 | none=>have:=(hm.2.2.2.2 rfl).1;omega
 | some ad =>
  refine wpList_copy_own hgd d s dT sT ho elem hu hsz g off dLen dCap ad m.length c hd hs (aL l) t hg (m.map jJ) (by rw[V7];exact(Nat.min_eq_left hn).symm) (fun j v hj=>?_) (by rw[V7,eZ];exact hfit) (kY m) ?_
  .obtain⟨x,hx,hc⟩:=hm.2.2.2.1 j v hj
   cases hx
   exact hc
  .rw[V7];have e:((aL l).toList.take off++(m.map jJ++(aL l).toList.drop (off+m.length))).toArray=aL (l.take off++m++l.drop (off+m.length)):=by
    simp[aL,qbH,qbZ,qce]
   rw[e];exact h
end
theorem Lj(l:List UInt8)(hl:l.length=512)(m:List UInt8)(hm:m.length=7):(l.take 148++m++l.drop (148+7)).set 155 32=l.take 148++(m++[32])++l.drop 156:=by
 have h1:(l.take 148++m).length=155:=by rw[vG,zQ];omega
 rw[show 148+7=155 by rfl,qck _ _ (by omega),h1,Nat.sub_self,qbJ (show 155<l.length by omega),dY];simp
theorem YW(l:List UInt8)(hl:l.length=512)(w:World)(hT:EZ w):Calls qp0 71 #[.agg (aL l)] w fun e w'=>e=.returned (.agg (aL (Plain.seal l)))/\Below w.heap.size w w':=by
 have HR:=ah (Two.new w 70 l cZ);have HS:=ah (fun w=>KX l hl w);have HI:=ah (iL l hl);have HZ:=ah Bw;have hsl:=DY l hl;have HI2:=ah (iL (Plain.seal l) hsl);have HO2:=ah (sI (Plain.seal l));have hsz2:Hid ((aL cZ).size=(aL (Plain.seal l)).size):=by show _=_;rw[eZ,eZ,nS,hsl]
 have hub:=Np l hl;have hse:Plain.seal l=l.take 148++((bf (Plain.sum uby l).toNat 6++[0])++[32])++l.drop 156:=by unfold Plain.seal;simp
 have hfl:(bf (Plain.sum uby l).toNat 6++[0]).length=7:=by rw[vG];unfold bf;rw[cu];rfl
 have adL:=Lj l hl (bf (Plain.sum uby l).toNat 6++[0]) hfl;rw[<-hse] at adL;have hput:Plain.fA (Plain.sum uby l) 7=(bf (Plain.sum uby l).toNat 6++[0],0):=by
  have h8:(8:Nat)^6=262144:=rfl;unfold Plain.fA;rw[if_neg (by omega),if_neg (by omega),show(7:Int).toNat - 1=6 by rfl,if_pos (by omega)]
 have HP:=ah (fun w h=>Jt (Plain.sum uby l) 7 w h (by omega) (by omega) (by decide) (by decide));rw[hput] at HP;generalize bf (Plain.sum uby l).toNat 6++[0]=m at *
 generalize Plain.sum uby l=U at *
 generalize Plain.sum Ju l=V at *
 generalize Plain.seal l=s at *
 have HT:=ah hT;have HC:=ah adL;have UR:=ah hfl;have HL:=ah hl;clear hT adL hput hse hub hsl hl;go_enter func71,ntmps71;go_upto_region 1 with(first|(with_reducible first|refine dO rfl _ _ rfl (aL l) rfl ?_|refine bV rfl _ rfl (aL cZ) HZ.out ?_))
 have hR:=HR.out;generalize hw0:(w.alloc (.cells (aL l) 70)).alloc (.cells (aL cZ) 70)=wa at *
 clear hw0;have HRR:=ah hR;have H0:=ah hR.r0;clear hR HR;go_wp2_with (first|(with_reducible refine wpList_load_row rfl _ _ rfl w.heap.size rfl 70 (aL l) (0,0) _ H0.out underlying70 rfl HI.out ?_)|(go_at_call 73;(with_reducible refine(HS.out _).mono ?_);rintro e w1 ⟨rfl,hb1⟩;have HR1:=ah (HRR.out.keep hb1);clear hb1)|(go_at_call 107;(refine(HP.out w1 (by exact HT.out.below HR1.out.bJ)).mono ?_);rintro e w2 ⟨a2,n2,c2,rfl,hs2,hb2⟩;have HR2:=ah (HR1.out.keep hb2);have HS2:=ah hs2;have UL:=ah (hs2.len.symm.trans UR.out);clear hs2 hb2)|(with_reducible refine bA rfl _ _ _ _ rfl underlying70 (by kernel_rfl) w.heap.size rfl 148 512 .i64 .i64 rfl rfl (by decide) (by decide) (by decide) ?_)|((with_reducible refine qV rfl _ _ 22 22 rfl 5 underlying22 (by kernel_rfl) w.heap.size 148 _ _ rfl rfl l m HR2.out.r0 HS2.out (by rw[UL.out];decide) (by rw[UL.out];decide) (by rw[UL.out,HL.out];decide) ?_);rw[UL.out];have hR3:=HR2.out.row (l.take 148++m++l.drop (148+7));generalize w2.setRow w.heap.size (aL (l.take 148++m++l.drop (148+7)))=w3 at *;have hl3:(l.take 148++m++l.drop (148+7)).length=512:=(by rw[vG,vG,zQ,zW,UR.out,HL.out];decide);have hc3:=hR3.cell 155 (by rw[hl3];decide);have hz3:=hR3.ac8 155;have hR4:=hR3.agf 155 32 32 rfl;rw[HC.out] at hR4;have HR4:=ah hR4;have H4:=ah hR4.r0;have H5:=ah hR4.r1;clear hR3 hR4 hl3)|(with_reducible first|refine wpList_load_row rfl _ _ rfl w.heap.size rfl 70 (aL s) (0,0) _ H4.out underlying70 rfl HI2.out ?_|refine wpList_store_row rfl 70 _ _ rfl (w.heap.size+1) rfl (aL s) rfl (aL cZ) 70 H5.out hsz2.out HI2.out HO2.out ?_))
 refine bodyPost_ret (results_cell_row rfl _ _ (w.heap.size+1) 70 (aL s) (0,0) _ rfl (setRow_heap _ _ _ _ _ _ H5.out) underlying70 rfl HI2.out) rfl ⟨rfl,Below.setRow HR4.out.bJ (by omega) _⟩
end
end Go.Proofs.YtdbgldieilgnmaaGreatDoor
