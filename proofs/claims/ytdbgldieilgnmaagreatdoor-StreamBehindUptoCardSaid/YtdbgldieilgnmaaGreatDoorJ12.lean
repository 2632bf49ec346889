/- J12 -/
import Derived.Test.YtdbgldieilgnmaaGreatDoorJ11
import Derived.Lib.AppendZeros
import Derived.Laws.CopyOwn
import Derived.OneCell
set_option linter.unusedVariables false
set_option linter.unusedSimpArgs false
set_option maxHeartbeats 8000000
set_option maxRecDepth 100000
namespace Go.Proofs.YtdbgldieilgnmaaGreatDoor
open Go.Proofs.Tryz
open Go.Proofs.Tryz renaming prog → qp0
open Go.ChangeShapes Go.WideShapes Go.ChangeAt Go.RowKit
def gK(t:TypeId)(v:Nat):Value:=if v<=18446744073709551615 then .tuple #[.int .u64 (v:Int),.nilIface] else .tuple #[.int .u64 18446744073709551615,.iface t (.int .i64 1)]
theorem Df(bs:List UInt8)(hne:bs≠[])(hmax:bs.length<=140737488355328)(hall:bs.all eX=true)(w:World):Calls qp0 210 #[.string ⟨bs.toArray⟩,.int .i64 8,.int .i64 64] w fun e w'=>e=.returned (gK 268 (bK 0 bs))/\w'=Lib.bytesWorld w 5 ⟨bs.toArray⟩:=by
 have Zw:bs.isEmpty=false:=by simpa using hne
 have hcv:=Lib.run_convert_string_bytes (P:=qp0) w 9 22 5 ⟨bs.toArray⟩ (u:=.string) underlying9 underlying22 underlying5;have hB:∀ j,j<bs.length->(Lib.bytesWorld w 5 ⟨bs.toArray⟩).cell? ⟨w.heap.size,j,none⟩=some (.int .u8 (bs.getD j 0).toNat):=fun j hj=>Lib.bytesWorld_cell w 5 ⟨bs.toArray⟩ j (by simpa[ByteArray.size] using hj)
 obtain⟨W1,hW1⟩:∃ W1,W1=Lib.bytesWorld w 5 ⟨bs.toArray⟩:=⟨_,rfl⟩
 rw[<-hW1] at hcv hB ⊢;clear hW1;have hmv:IntKind.u64.wrap (IntKind.u64.wrap 18446744073709551616 - 1)=18446744073709551615:=by
  rw[IntKind.wrap_u64,IntKind.wrap_u64];decide
 have HB:=ah hB;have KA:=ah hall;clear hB hall;generalize hR:gK 268 (bK 0 bs)=R;have HR:=ah hR;clear hR;have ahD:IntKind.u64.wrap (18446744073709551615 / 8+1)=2305843009213693952:=by rw[IntKind.wrap_u64];decide
 go_enter func210,ntmps210;go_wp2
 go_loop [12,13,101] (fun vu vn vi=>∃ (k:Nat)(a:Int),vu=.bool false/\vn=.int .u64 a/\vi=.int .i64 k/\k<=bs.length/\Hid (a=(bK 0 (bs.take k):Nat)/\bK 0 (bs.take k)<18446744073709551616))
  (fun _ _ vi=>bs.length-(intOf vi).toNat)
 case atStart=>exact⟨0,0,rfl,rfl,rfl,by omega,ah (by rw[qct,kQ];decide)⟩
 case round =>
  obtain⟨k,a,rfl,rfl,rfl,hk,hh⟩:=hrel;obtain⟨ha,hacc⟩:=hh.out;clear hh;have a0:0<=a:=by omega
  have a1:a<18446744073709551616:=by omega
  by_cases hkn:k<bs.length
  .have hc:=HB.out k hkn;have hdig:=X6 bs k hkn KA.out;have hst:=KR bs k hkn;have hle:=Cw bs (k+1);generalize bs.getD k 0=c at hc hdig hst;have hc256:c.toNat<256:=c.toNat_lt;obtain⟨hd0,hd1⟩:=hdig;have e0:(48:Int)<=c.toNat:=by omega
   have e1:(c.toNat:Int)<=55:=by omega
   by_cases hcut:2305843009213693952<=a
   .have hf:gK 268 (bK 0 bs)=.tuple #[.int .u64 18446744073709551615,.iface 268 (.int .i64 1)]:=by
     unfold gK;rw[if_neg (by omega)]
    obtain rfl:=(HR.out.symm.trans hf);clear hf ha hacc hst hle;go_wp2
    go_ret2;exact⟨rfl,rfl⟩
   .have HN:Hid (a*8+((c.toNat:Int) - 48)=(bK 0 (bs.take (k+1)):Nat)/\bK 0 (bs.take (k+1))<18446744073709551616):=ah ⟨by omega,by omega⟩;have icut:a<2305843009213693952:=by omega
    have iov:a*8+((c.toNat:Int) - 48)<18446744073709551616:=by omega
    clear hcut ha hacc hst hle;go_wp2
    exact⟨⟨k+1,a*8+((c.toNat:Int) - 48),rfl,(by first|rfl|(congr 1;omega)),(by first|rfl|(congr 1;omega)),by omega,HN⟩,by simp[intOf];omega⟩
  .obtain rfl:k=bs.length:=by omega
   rw[qbA] at ha hacc;have hf:gK 268 (bK 0 bs)=.tuple #[.int .u64 a,.nilIface]:=by
    unfold gK;rw[if_pos (by omega),ha]
   obtain rfl:=(HR.out.symm.trans hf);clear hf ha hacc;go_wp2
   go_ret2;exact⟨rfl,rfl⟩
def mU(t:TypeId)(v:Nat):Value:=if v<=9223372036854775807 then .tuple #[.int .i64 (v:Int),.nilIface] else .tuple #[.int .i64 9223372036854775807,.iface t (.int .i64 1)]
theorem Fj(bs:List UInt8)(hne:bs≠[])(hmax:bs.length<=140737488355328)(hall:bs.all eX=true)(w:World):Calls qp0 181 #[.string ⟨bs.toArray⟩,.int .i64 8,.int .i64 64] w fun e w'=>e=.returned (mU 268 (bK 0 bs))/\Below w.heap.size w w':=by
 have Zw:bs.isEmpty=false:=by simpa using hne
 have c0:0<bs.length:=qbQ.2 hne;have hx:=oO bs 0 c0;have hd:=X6 bs 0 c0 hall;have hU:=Df bs hne hmax hall w;generalize bs.getD 0 0=g at hx hd;have h43:((g.toNat:Int)==43)=false:=by rw[beq_eq_false_iff_ne];omega
 have h45:((g.toNat:Int)==45)=false:=by rw[beq_eq_false_iff_ne];omega
 have hq1:∀ W,(binOp .neq 205 (.iface 268 (.int .i64 1)) (.iface 268 (.int .i64 1))).run qp0 W=.ok (.bool false) W:=fun W=>Lib.run_neq_iface_int W 1 1 underlying205 (by kernel_rfl) underlying268
 clear hd hne hall;generalize bK 0 bs=v at *
 by_cases h1:v<=9223372036854775807
 .have e1:gK 268 v=.tuple #[.int .u64 (v:Int),.nilIface]:=by unfold gK;rw[if_pos (by omega)]
  have e2:mU 268 v=.tuple #[.int .i64 (v:Int),.nilIface]:=by unfold mU;rw[if_pos h1]
  rw[e1] at hU;rw[e2];obtain⟨a,ha⟩:∃ a:Int,a=(v:Int):=⟨_,rfl⟩
  rw[<-ha] at hU ⊢;have HU:=ah hU;have i1:a<9223372036854775808:=by omega
  have i0:0<=a:=by omega
  clear e1 e2 hU h1 ha;go_enter func181,ntmps181;go_wp2_with (go_at_call 210;refine(HU.out).mono ?_;rintro e w1 ⟨rfl,hw1⟩;have HW:=ah hw1;clear hw1)
  go_ret2;exact⟨rfl,by rw[HW.out];exact Lib.bytesWorld_below _ _ _⟩
 .have e2:mU 268 v=.tuple #[.int .i64 9223372036854775807,.iface 268 (.int .i64 1)]:=by unfold mU;rw[if_neg h1]
  rw[e2];by_cases h2:v<=18446744073709551615
  .have e1:gK 268 v=.tuple #[.int .u64 (v:Int),.nilIface]:=by unfold gK;rw[if_pos h2]
   rw[e1] at hU;obtain⟨a,ha⟩:∃ a:Int,a=(v:Int):=⟨_,rfl⟩
   rw[<-ha] at hU;have HU:=ah hU;have i1:9223372036854775808<=a:=by omega
   have i2:a<=18446744073709551615:=by omega
   clear e1 e2 hU h1 h2 ha;go_enter func181,ntmps181;go_wp2_with (go_at_call 210;refine(HU.out).mono ?_;rintro e w1 ⟨rfl,hw1⟩;have HW:=ah hw1;clear hw1)
   go_ret2;exact⟨rfl,by rw[HW.out];exact Lib.bytesWorld_below _ _ _⟩
  .have e1:gK 268 v=.tuple #[.int .u64 18446744073709551615,.iface 268 (.int .i64 1)]:=by unfold gK;rw[if_neg h2]
   rw[e1] at hU;have HU:=ah hU;clear e1 e2 hU h1 h2;go_enter func181,ntmps181;go_wp2_with (go_at_call 210;refine(HU.out).mono ?_;rintro e w1 ⟨rfl,hw1⟩;have HW:=ah hw1;clear hw1)
   go_ret2;exact⟨rfl,by rw[HW.out];exact Lib.bytesWorld_below _ _ _⟩
theorem A8(bs:List UInt8)(hne:bs≠[])(hmax:bs.length<=140737488355328)(hall:bs.all eX=true)(w:World)(ev:Value)(hE:eO w ev):Calls qp0 143 #[.string ⟨bs.toArray⟩,.int .i64 8,.int .i64 64] w fun e w'=>∃ (x:Int)(er:Value),e=.returned (.tuple #[.int .i64 x,er])/\Below w.heap.size w w' /\
   (bK 0 bs<=9223372036854775807->x=bK 0 bs/\er=.nilIface)/\(¬ bK 0 bs<=9223372036854775807->∃ t p,er=.iface t p):=by
 have hI:=Fj bs hne hmax hall w;generalize bK 0 bs=v at *
 by_cases h1:v<=9223372036854775807
 .have e2:mU 268 v=.tuple #[.int .i64 (v:Int),.nilIface]:=by unfold mU;rw[if_pos h1]
  rw[e2] at hI;have HI:=ah hI;clear hI e2;go_enter func143,ntmps143;go_wp2_with (go_at_call 181;refine(HI.out).mono ?_;rintro e w1 ⟨rfl,hb1⟩)
  go_ret2;exact⟨_,_,rfl,hb1,fun _=>⟨rfl,rfl⟩,fun h=>absurd h1 h⟩
 .have e2:mU 268 v=.tuple #[.int .i64 9223372036854775807,.iface 268 (.int .i64 1)]:=by unfold mU;rw[if_neg h1]
  rw[e2] at hI;have HI:=ah hI;have HE:=ah hE;have HH:=ah h1;clear hI e2 h1 hE;go_enter func143,ntmps143;go_wp2_with (first|(go_at_call 181;refine(HI.out).mono ?_;rintro e w1 ⟨rfl,hb1⟩;have HB1:=ah hb1;clear hb1)|(go_at_call 182;refine(Tryz.strconv_toError_range _ _ 8 64 ev _ (by simp[ByteArray.size];omega) (by exact(HE.out.below HB1.out).1) (Or.inr HE.out.2)).mono ?_;rintro e w2 ⟨N,rfl,hN1,hN2,hb2⟩;have HB2:=ah hb2;clear hb2 hN1 hN2))
  go_ret2;exact⟨_,_,rfl,Below.seq HB1.out HB2.out,fun h=>absurd h HH.out,fun _=>⟨_,_,rfl⟩⟩
theorem Yn(l:List UInt8)(k:Nat)(h:k<l.length)(ih:(l.take k).all eX=true)(hd:48<=(l.getD k 0).toNat/\(l.getD k 0).toNat<=55):(l.take (k+1)).all eX=true:=by
 have hg:l.getD k 0=l[k]:=by simp[List.getD,kM h]
 have h1:eX (l.getD k 0)=true:=(kN _).2 hd;rw[Nh h,qcp,ih,<-hg,JJ,h1];rfl
theorem ac3(l:List UInt8)(k:Nat)(h:k<l.length)(hd:¬ (48<=(l.getD k 0).toNat/\(l.getD k 0).toNat<=55)):l.all eX=false:=by
 have hg:l.getD k 0=l[k]:=by simp[List.getD,kM h]
 cases ha:l.all eX with
 | false=>rfl
 | true =>
  have:=(Ej.1 ha) l[k] (VE h);rw[kN,<-hg] at this;exact absurd this hd
theorem FD{p q:UInt8->Bool}(l:List UInt8)(h:l.all p=true):(l.dropWhile q).all p=true:=by
 rw[Ej] at h ⊢;exact fun x hx=>h x ((qbC q).subset hx)
theorem Plain.Uj(l:List UInt8)(h:(dM (l.dropWhile (·==32))).all eX=false):Plain.octal l=(0,10):=by
 have hg:(dL (l.dropWhile (·==32))).all gX=false:=by
  cases hg:(dL (l.dropWhile (·==32))).all gX with
  | false=>rfl
  | true=>rw[FU _ hg,Ap] at h;cases h
 unfold Plain.octal;simp only[hg];rfl
theorem Plain.PE(l:List UInt8)(h:(dM (l.dropWhile (·==32))).all eX=true):Plain.octal l=if bK 0 (dM (l.dropWhile (·==32)))<=9223372036854775807 then(((bK 0 (dM (l.dropWhile (·==32))):Nat):Int),0) else(0,11):=by
 have hg:(dL (l.dropWhile (·==32))).all gX=true:=by
  cases hg:(dL (l.dropWhile (·==32))).all gX with
  | true=>rfl
  | false=>rw[XJ _ hg] at h;cases h
 rw[FU _ hg];unfold Plain.octal;simp only[hg,if_true]
theorem Sm(l:List UInt8):(dM l).length<=l.length:=by
 unfold dM;rw[List.length_reverse];have:=(qbC (l:=l.reverse) gX).length_le;simpa using this
theorem Uo(a:Option Addr)(n c:Nat)(l:List UInt8)(w:World)(ev:Value)(h:Bs w a n c l)(hc:n<=140737488355328)(hE:eO w ev):Calls qp0 110 #[.slice a n c] w fun e w'=>e=.returned (nU (Plain.octal l))/\Below w.heap.size w w':=by
 have hl:=h.len;have hcap:=h.cap;have hbad:=Plain.Uj l;have hgood:=Plain.PE l;have ae4:(l.dropWhile (·==32)).length<=l.length:=(qbC _).length_le;have HTL:Hid (∀ w,Calls qp0 142 #[.string ⟨l.toArray⟩,.string ⟨#[32]⟩] w fun e w'=>e=.returned (.string ⟨(l.dropWhile (·==32)).toArray⟩)/\w'=w):=fun w=>Tryz.strings_TrimLeft_one ⟨l.toArray⟩ 32 (by decide) w
 generalize l.dropWhile (·==32)=m at *
 have af8:=Sm m;have HTR:Hid (∀ w,Calls qp0 129 #[.string ⟨m.toArray⟩,.string ⟨#[32,0]⟩] w fun e w'=>e=.returned (.string ⟨(dM m).toArray⟩)/\Below w.heap.size w w'):=fun w=>JR m w (by omega)
 generalize dM m=p at *
 have HTZ:Hid (∀ w,Calls qp0 142 #[.string ⟨p.toArray⟩,.string ⟨#[48]⟩] w fun e w'=>e=.returned (.string ⟨(p.dropWhile (·==48)).toArray⟩)/\w'=w):=fun w=>Tryz.strings_TrimLeft_one ⟨p.toArray⟩ 48 (by decide) w
 have hp:p.length<=140737488355328:=by omega
 generalize hr:Plain.octal l=r at *
 have HBAD:=ah hbad;have afm:=ah hgood;have HE:=ah hE;clear hbad hgood hE hr af8 ae4;have hu:=ah underlying5;go_enter func110,ntmps110;go_wp2_with (first|(with_reducible refine aT rfl _ _ _ rfl underlying22 hu.out underlying9 rfl h ?_)|(go_at_call 142;(with_reducible refine(HTL.out _).mono ?_);rintro e w1 ⟨rfl,hw⟩;obtain rfl:=hw.symm)|(go_at_call 129;(with_reducible refine(HTR.out _).mono ?_);rintro e w2 ⟨rfl,hb2⟩))
 go_loop [6] (fun i=>∃ k:Nat,k<=p.length/\i=.int .i64 k/\Hid ((p.take k).all eX=true)) (fun i=>p.length-(intOf i).toNat)
 case atStart=>exact⟨0,by omega,rfl,(rfl:(p.take 0).all eX=true)⟩
 case round =>
  obtain⟨k,hk,rfl,hz⟩:=hrel;by_cases hlt:k<p.length
  .have hkn:(k:Int)<(p.length:Int):=by omega
   have hx:=oO p k hlt;have hstep:=Yn p k hlt hz.out;have hno:=ac3 p k hlt;generalize p.getD k 0=g at hx hstep hno;have HS:=ah hstep;have VZ:=ah hno;clear hstep hno;by_cases d1:(g.toNat:Int)<48
   .obtain rfl:=HBAD.out (VZ.out (by omega));go_wp2
    go_ret2;exact⟨rfl,hb2⟩
   .by_cases d2:(55:Int)<g.toNat
    .obtain rfl:=HBAD.out (VZ.out (by omega));go_wp2
     go_ret2;exact⟨rfl,hb2⟩
    .have hs:=ah (HS.out (by omega));go_wp2
     go_round
     case rel=>exact⟨k+1,by omega,by go_num,hs⟩
     case measure=>simp[intOf];omega
  .obtain rfl:k=p.length:=by omega
   have hall:p.all eX=true:=by have:=hz.out;rwa [qbA] at this
   have hrr:=afm.out hall;have hz0:=wM p;have X5:=FD (q:=(·==48)) p hall;have aff:(p.dropWhile (·==48)).length<=p.length:=(qbC _).length_le;generalize p.dropWhile (·==48)=q at *
   by_cases hq:q=[]
   .subst hq;rw[kQ] at hz0;rw[<-hz0,if_pos (by decide)] at hrr;obtain rfl:=hrr;clear hall X5 aff hz0 hz;go_wp2_with (go_at_call 142;(with_reducible refine(HTZ.out _).mono ?_);rintro e w3 ⟨rfl,hw⟩;obtain rfl:=hw.symm)
    go_ret2;exact⟨rfl,hb2⟩
   .have Zw:q.isEmpty=false:=by simpa using hq
    have HPI:=ah (fun w hw=>A8 q hq (by omega) X5 w ev hw);rw[<-hz0] at hrr;have HRR:=ah hrr;clear hall X5 hz0 hz hrr hq;generalize bK 0 q=v at *
    by_cases hv:v<=9223372036854775807
    .have hf:=HRR.out;rw[if_pos hv] at hf;obtain rfl:=hf;have HV:=ah hv;clear hv;go_wp2_with (first|(go_at_call 142;(with_reducible refine(HTZ.out _).mono ?_);rintro e w3 ⟨rfl,hw⟩;obtain rfl:=hw.symm)|(go_at_call 143;refine(HPI.out _ (by exact HE.out.below hb2)).mono ?_;rintro e w4 ⟨x,er,rfl,hb4,hx1,_⟩;obtain⟨rfl,rfl⟩:=hx1 HV.out;clear hx1))
     go_ret2;exact⟨rfl,Below.seq hb2 hb4⟩
    .have hf:=HRR.out;rw[if_neg hv] at hf;obtain rfl:=hf;have HV:=ah hv;clear hv;go_wp2_with (first|(go_at_call 142;(with_reducible refine(HTZ.out _).mono ?_);rintro e w3 ⟨rfl,hw⟩;obtain rfl:=hw.symm)|(go_at_call 143;refine(HPI.out _ (by exact HE.out.below hb2)).mono ?_;rintro e w4 ⟨x,er,rfl,hb4,_,hx2⟩;obtain⟨te,pe,rfl⟩:=hx2 HV.out;clear hx2))
     go_ret2;exact⟨rfl,Below.seq hb2 hb4⟩
theorem H8{w:World}{a:Option Addr}{n c:Nat}{l:List UInt8}(h:Bs w a n c l):(n=0/\Plain.number l=Plain.octal l)\/(∃ b off,∃ G:Int,0<n/\a=some ⟨b,off,none⟩/\w.cell? ⟨b,off,none⟩=some (.int .u8 G)/\((128<=G/\Plain.number l=Plain.mW l)\/(G<128/\Plain.number l=Plain.octal l))):=by
 have hl:=h.len;by_cases h0:n=0
 .exact .inl ⟨h0,by unfold Plain.number;rw[if_neg (by omega)]⟩
 .right
  obtain⟨b,off,ha,hc⟩:=h.at 0 (by omega);rw[R4] at hc;refine⟨b,off,_,by omega,ha,hc,?_⟩;by_cases hg:128<=(l.getD 0 0).toNat
  .exact .inl ⟨by omega,by unfold Plain.number;rw[if_pos ⟨by omega,hg⟩]⟩
  .exact .inr ⟨by omega,by unfold Plain.number;rw[if_neg (fun h=>hg h.2)]⟩
theorem qM(a:Option Addr)(n c:Nat)(l:List UInt8)(w:World)(ev:Value)(h:Bs w a n c l)(hc:n<=140737488355328)(hE:eO w ev):Calls qp0 72 #[.slice a n c] w fun e w'=>e=.returned (nU (Plain.number l))/\Below w.heap.size w w':=by
 have hB:=MF a n c l w h;have hO:=Uo a n c l w ev h hc hE;have hq:=H8 h;have HB:=ah hB;have HO:=ah hO;clear hB hO h hE;rcases hq with⟨rfl,hq⟩|⟨b,off,G,hn,rfl,hcell,⟨hG,hq⟩|⟨hG,hq⟩⟩
 .rw[hq];clear hq;go_enter func72,ntmps72;go_wp2_with (go_at_call 110;(with_reducible refine(HO.out).mono ?_);rintro e w1 ⟨rfl,hb⟩;unfold nU)
  go_ret2;exact⟨rfl,hb⟩
 .rw[hq];clear hq;have hn1:(0:Int)<n:=by omega
  go_enter func72,ntmps72;go_wp2_with (go_at_call 109;(with_reducible refine(HB.out).mono ?_);rintro e w1 ⟨rfl,hw⟩;obtain rfl:=hw;unfold nU)
  go_ret2;exact⟨rfl,Below.refl _ _⟩
 .rw[hq];clear hq;have hn1:(0:Int)<n:=by omega
  have hG2:¬ 128<=G:=by omega
  go_enter func72,ntmps72;go_wp2_with (go_at_call 110;(with_reducible refine(HO.out).mono ?_);rintro e w1 ⟨rfl,hb⟩;unfold nU)
  go_ret2;exact⟨rfl,hb⟩
section
def EZ(w:World):Prop:=w.cell? ⟨7,7,none⟩=some (.int .u8 3)
theorem EZ.below{w w':World}(h:EZ w)(k:Below w.heap.size w w'):EZ w':=Below.keeps k _ _ h
theorem adT(w:World)(h:EZ w):Calls qp0 253 #[.int .u64 8] w fun e w'=>e=.returned (.int .i64 3)/\w=w':=by
 unfold EZ at h;have h1:IntKind.u64.wrap (bits .and .u64 8 (IntKind.u64.wrap (-8))*285870213051353865) / 288230376151711744=7:=by decide +kernel
 go_enter func253,ntmps253;go_wp2
 go_ret;exact⟨rfl,rfl⟩
theorem agI(w:World)(h:EZ w):Calls qp0 235 #[.int .u64 8] w fun e w'=>e=.returned (.int .i64 3)/\w=w':=by
 have H:=ah (adT w h);clear h;go_enter func235,ntmps235;go_wp2_with (go_at_call 253;(with_reducible refine(H.out).mono ?_);rintro e w1 ⟨rfl,hw⟩;obtain rfl:=hw)
 go_ret;exact⟨rfl,rfl⟩
theorem acF(w:World):Calls qp0 234 #[.int .i64 8] w fun e w'=>e=.returned (.bool true)/\w=w':=by
 have h1:bits .and .i64 8 7=0:=by decide +kernel
 go_enter func234,ntmps234;go_wp2
 go_ret;exact⟨rfl,rfl⟩
section
variable {P:Program}{ops:Array Oper}{rest:List Oper}{o:Oper}{a:Act}{w:World}{Q:Exit->Act->World->Prop}
theorem pW(hgd:o.guard=none)(t:TypeId)(y x:Operand)(ho:o.op=.index t y x)(ht:P.underlying t=some .string){s:ByteArray}(hy:a.eval y=.string s){k:IntKind}(d:Nat)(hx:a.eval x=.int k (d:Int))(b:UInt8)(hb:s.data.toList[d]? = some b)(h:wpList P ops Q rest (a.put o.dst (.int .u8 (b.toNat:Int))) w):wpList P ops Q (o::rest) a w:=by
 refine bI hgd _ _ ?_ h;have hr:=run_index_string (P:=P) (w:=w) t s k (d:Int) ht;obtain⟨hlt,hv⟩:=qbl.1 hb;have hsz:d<s.size:=by rw[U5] at hlt;exact hlt
 have hgt:s[d]'hsz=b:=by rw[<-hv,Array.getElem_toList];rfl
 have hx2:(Instr.index t (.string s) (.int k (d:Int))).run P w=.ok (.int .u8 (b.toNat:Int)) w:=by
  rw[hr,dif_pos ⟨by omega,by omega⟩];have:s[(d:Int).toNat]'(by omega)=b:=hgt;rw[this]
 simp[execOp,ho,hy,hx,hx2,Result.andThen]
end
def afE:ByteArray:=⟨#[48,49,50,51,52,53,54,55,56,57,97,98,99,100,101,102,103,104,105,106,107,108,109,110,111,112,113,114,115,116,117,118,119,120,121,122]⟩
theorem aaF(d:Nat)(h:d<8):afE.data.toList[d]? = some (UInt8.ofNat (48+d)):=by
 have key:∀ x:Fin 8,afE.data.toList[x.1]? = some (UInt8.ofNat (48+x.1)):=by decide
 exact key ⟨d,h⟩
def z65:List UInt8:=List.replicate 65 0
theorem adh:(qp0.info? 291).bind (·.zero)=some (.agg (aL (z65))):=by kernel_rfl
theorem Yt(n:Nat)(h:n<18446744073709551616):bits .and .u64 (n:Int) 7=((n%8:Nat):Int):=by
 have e:bits .and .u64 (n:Int) 7=((n &&& 7:Nat):Int):=u64_and_nat n 7 h (by decide);rw[e,show(7:Nat)=2^3 - 1 by rfl,Nat.and_two_pow_sub_one_eq_mod]
theorem WH(v:Nat)(h:v<=9223372036854775807):qL v<=21:=Ww v 21 (by decide) (by have:(8:Nat)^21=9223372036854775808:=rfl;omega)
structure qW(w:World)(v k:Nat)(wr:World):Prop where
 bJ:Below w.heap.size w wr
 row:wr.heap[w.heap.size]? = some (.cells (aL (jM 0 (iQ v) 65 k [])) 291 (0,0))
theorem qW.start(w:World)(v:Nat):qW w v 0 (w.alloc (.cells (aL (z65)) 291)):=by
 refine⟨(Below.refl _ _).alloc (aY _) _,?_⟩;rw[heap_alloc_new,Jf,Qq];rfl
theorem qW.step{w wr:World}{v k:Nat}(h:qW w v k wr)(hk:k<65)(b:UInt8)(hb:b=iQ v k):qW w v (k+1) (wr.setCell ⟨w.heap.size,64-k,none⟩ (.int .u8 (b.toNat:Int))):=by
 subst hb;refine⟨h.bJ.setCell (by simp) _,?_⟩;rw[heap_setCell_same _ _ _ _ _ _ h.row,show(Value.int .u8 ((iQ v k).toNat:Int))=jJ (iQ v k) from rfl,wQ,show 64-k=65 - 1-k by omega,K5 0 (iQ v) 65 k [] hk]
theorem qW.cell{w wr:World}{v k:Nat}(h:qW w v k wr)(hk:k<65)(j:Nat)(hj:j<65):∃ x,wr.cell? ⟨w.heap.size,j,none⟩=some x :=⟨_,by rw[cell_of_row _ _ _ _ _ _ h.row,tF _ _ (by rw[Me _ _ _ _ _ (by omega)];exact hj)]⟩
theorem qW.bs{w wr:World}{v k:Nat}(h:qW w v k wr)(hk:k<=65):Bs wr (some ⟨w.heap.size,65-k,none⟩) k k (bf v k):=by
 refine⟨by rw[V7];unfold bf;rw[cu];omega,aY _,by unfold maxLen;omega,fun j x hj=>⟨_,rfl,?_⟩,fun h=>by cases h⟩;rw[Addr.add_lit,cell_of_row _ _ _ _ _ _ h.row];have hd:=Js 0 (iQ v) 65 k [];rw[Qq] at hd;have e:(bf v k)=(jM 0 (iQ v) 65 k []).drop (65-k):=hd.symm;rw[e,qce,qbE] at hj;simpa[aL] using hj
theorem IE(v:Nat)(hv:v<=9223372036854775807)(w:World)(hT:EZ w):Calls qp0 203 #[.slice none 0 0,.int .u64 v,.int .i64 8,.bool false,.bool false] w fun e w'=>e=.returned (.tuple #[.slice none 0 0,.string ⟨(bf v (qL v)).toArray⟩])/\Below w.heap.size w w':=by
 have hn:=WH v hv;have HT:=ah hT;have HZ:=ah adh;clear hT;go_enter func203,ntmps203;go_wp2_with (first|(with_reducible refine bV rfl _ rfl (aL (z65)) HZ.out ?_)|(go_at_call 234;(with_reducible refine(acF _).mono ?_);rintro e w1 ⟨rfl,hw⟩;obtain rfl:=hw)|(go_at_call 235;(refine(agI _ (by exact HT.out.below (qW.start w v).bJ)).mono ?_);rintro e w1 ⟨rfl,hw⟩;obtain rfl:=hw))
 have hS:=qW.start w v;have HTW:=ah (HT.out.below hS.bJ);go_loopw [1,13] (fun u i wr=>∃ k:Nat,k+qL (v / 8^k)=qL v/\u=.int .u64 ((v / 8^k:Nat):Int)/\i=.int .i64 (65-(k:Int))/\qW w v k wr) (fun u _ _=>(intOf u).toNat)
 case atStart=>exact⟨0,by rw[Nat.pow_zero,Nat.div_one];omega,by rw[Nat.pow_zero,Nat.div_one],by go_num,hS⟩
 case round =>
  obtain⟨k,hk,rfl,rfl,hD⟩:=hrel;have hdp:=aap (v / 8^k);have ahL:k<21:=by omega
  have hrec:8<=v / 8^k->qL (v / 8^k)=qL (v / 8^(k+1))+1:=fun h=>by
   rw[qbN,<-Nat.div_div_eq_div_mul]
   conv=>lhs;unfold qL
   rw[if_neg (by omega)]
  have hnext:v / 8^k / 8=v / 8^(k+1):=by rw[qbN,<-Nat.div_div_eq_div_mul]
  have hle:v / 8^k<=v:=Nat.div_le_self _ _;have hdig:iQ v k=UInt8.ofNat (48+v / 8^k%8):=rfl;have hlast:v / 8^k<8->qL (v / 8^k)=1:=fun h=>by unfold qL;rw[if_pos h]
  generalize hU:v / 8^(k+1)=U' at *
  generalize v / 8^k=U at *
  obtain⟨j,hj⟩:∃ j:Nat,(65:Int)-(k:Int) - 1=(j:Int):=⟨64-k,by omega⟩
  have hjk:j=64-k:=by omega
  have ahU:(j:Int)<65:=by omega
  obtain⟨x0,hx0⟩:=hD.cell (by omega) j (by omega);have hfz:=frozen_of_row _ _ j _ _ hD.row;have hb:=aaF (U%8) (qcz _ (by decide));have hand:=Yt U (by omega);have hm8:U<8->U%8=U:=fun h=>Nat.mod_eq_of_lt h
  generalize hB:UInt8.ofNat (48+U%8)=B at hb hdig;have hstep:=hD.step (by omega) B hdig.symm;rw[<-hjk] at hstep;have HBY:=ah hb;have WJ:=ah hstep;have HN:=ah hnext;have agi:=ah hrec;have afI:=ah hlast;have HK:=ah hk;have HJK:=ah hjk;have HM8:=ah hm8;have HU:=ah hU;clear hb hstep hnext hrec hlast hk hjk hdig hB hm8 hU;by_cases h8:8<=U
  .have h8i:(8:Int)<=(U:Int):=by omega
   go_wp2_with (refine pW rfl 9 _ _ rfl underlying9 rfl (U%8) rfl B HBY.out ?_)
   exact⟨⟨k+1,by have:=agi.out h8;have:=HK.out;rw[HU.out];omega,by rw[HU.out,<-HN.out];go_num,by go_num,WJ.out⟩,by simp[intOf];omega⟩
  .have h8i:¬ (8:Int)<=(U:Int):=by omega
   have h8j:(U:Int)<8:=by omega
   have hidx:=HM8.out (by omega);have hb2:=HBY.out;rw[hidx] at hb2;have ahl:=ah hb2;clear hb2 hidx hand;have hk1:k+1=qL v:=by have:=afI.out (by omega);have:=HK.out;omega
   have hbs:Bs (wr.setCell ⟨w.heap.size,j,none⟩ (.int .u8 (B.toNat:Int))) (some ⟨w.heap.size,j,none⟩) (65-j) (65-j) (bf v (qL v)):=by
    have:=WJ.out.bs (by omega);rw[<-hk1];have e1:65-(k+1)=j:=by have:=HJK.out;omega
    have e2:65-j=k+1:=by omega
    rw[e1] at this;rw[e2];exact this
   have R5:=ah hbs;have hbel:=WJ.out.bJ;clear hbs hk1;have hj2:j<=65:=by omega
   have hj3:j<65:=by omega
   go_wp2_with (first|(refine pW rfl 9 _ _ rfl underlying9 rfl U rfl B ahl.out ?_)|(with_reducible first|refine bA rfl _ _ _ _ rfl underlying291 (by kernel_rfl) w.heap.size rfl j 65 .i64 .i64 rfl rfl hj2 (by decide) hj3 ?_|refine aT rfl _ _ _ rfl underlying22 underlying5 underlying9 rfl R5.out ?_))
   go_ret2;exact⟨rfl,hbel⟩
theorem zU(v:Nat)(hv:v<=9223372036854775807)(w:World)(hT:EZ w):Calls qp0 140 #[.int .i64 v,.int .i64 8] w fun e w'=>e=.returned (.string ⟨(bf v (qL v)).toArray⟩)/\Below w.heap.size w w':=by
 have HF:Hid (Calls qp0 171 #[.int .i64 v,.int .i64 8] w fun e w'=>e=.returned (.string ⟨(bf v (qL v)).toArray⟩)/\Below w.heap.size w w'):=by
  have H:=ah (IE v hv w hT);show Calls _ _ _ _ _;have hn:¬ (v:Int)<0:=by omega
  clear hT;go_enter func171,ntmps171;go_wp2_with (go_at_call 203;(with_reducible refine(H.out).mono ?_);rintro e w1 ⟨rfl,hb⟩)
  go_ret;exact⟨rfl,hb⟩
 clear hT;go_enter func140,ntmps140;go_wp2_with (go_at_call 171;(with_reducible refine(HF.out).mono ?_);rintro e w1 ⟨rfl,hb⟩)
 go_ret;exact⟨rfl,hb⟩
end
section
def acr(w:World)(g c:Nat):Prop:=∀ k,k<c->(w.cell? ⟨g,k,none⟩).isSome=true/\w.frozen? ⟨g,k,none⟩=false
def Free(w:World)(B:Nat)(a:Option Addr)(n c:Nat):Prop:=n<=c/\c<=maxLen/\((a=none/\c=0)\/∃ g,a=some ⟨g,0,none⟩/\B<=g/\g<w.heap.size/\acr w g c)
theorem Free.base{w:World}{B B':Nat}{a:Option Addr}{n c:Nat}(h:Free w B a n c)(hb:B'<=B):Free w B' a n c:=by
 obtain⟨h1,h2,h3⟩:=h;refine⟨h1,h2,?_⟩;rcases h3 with h3|⟨g,ha,hB,r⟩
 .exact .inl h3
 .exact .inr ⟨g,ha,by omega,r⟩
theorem Free.nil(w:World)(B:Nat):Free w B none 0 0:=⟨aY _,by unfold maxLen;omega,.inl ⟨rfl,rfl⟩⟩
section
variable {P:Program}
end
end
section
def Qb(w:World)(r:List UInt8×Int)(e:Ending)(w':World):Prop :=∃ a n c,e=.returned (.tuple #[.slice a n c,.int .i64 r.2])/\Bs w' a n c r.1/\Below w.heap.size w w'
theorem adR(w:World):Bs w none 0 0 []:=⟨rfl,aY _,by unfold maxLen;omega,fun j v hj=>by simp at hj,fun _=>⟨rfl,rfl⟩⟩
def mI(w:World)(r:List UInt8×Int)(e:Ending)(w':World):Prop :=∃ a n c,e=.returned (.tuple #[.slice a n c,.int .i64 r.2])/\Bs w' a n c r.1/\Below w.heap.size w w'/\Free w' w.heap.size a n c
theorem mI.res{w w':World}{r:List UInt8×Int}{e:Ending}(h:mI w r e w'):Qb w r e w':=by
 obtain⟨a,n,c,h1,h2,h3,_⟩:=h;exact⟨a,n,c,h1,h2,h3⟩
theorem mI.nil{w w':World}(k:Int)(h:Below w.heap.size w w'):mI w ([],k) (.returned (.tuple #[.slice none 0 0,.int .i64 k])) w':=⟨none,0,0,rfl,adR _,h,Free.nil _ _⟩
theorem AB(w:World)(e:TypeId)(l:List UInt8)(h:l.length<=140737488355328):Free (Lib.bytesWorld w e ⟨l.toArray⟩) w.heap.size (some ⟨w.heap.size,0,none⟩) l.length (grownCap w l.length 0 e):=by
 have hge:=grownCap_ge w l.length 0 e;have hsz:(Lib.bytesCells w e ⟨l.toArray⟩).size=grownCap w l.length 0 e:=by
  simp[Lib.bytesCells,ByteArray.size];omega
 have hnew:=Lib.bytesWorld_at_new w e ⟨l.toArray⟩;refine⟨hge,grownCap_le_maxLen w _ 0 e (by unfold maxLen;omega),.inr ⟨_,rfl,aY _,by rw[Lib.bytesWorld_size];omega,fun k hk=>⟨?_,?_⟩⟩⟩
 .rw[cell_of_row _ _ _ _ _ _ hnew];have:k<(Lib.bytesCells w e ⟨l.toArray⟩).size:=by omega
  simp[this]
 .have hlt:k<(Lib.bytesCells w e ⟨l.toArray⟩).size:=by omega
  simp[World.frozen?,hnew];omega
section
variable {P:Program}{ops:Array Oper}{rest:List Oper}{o:Oper}{a:Act}{w:World}{Q:Exit->Act->World->Prop}
theorem yM(hgd:o.guard=none)(src dst:TypeId)(x:Operand)(ho:o.op=.convert src dst x){e:TypeId}(hs:P.underlying src=some .string)(hd:P.underlying dst=some (.slice e))(he:P.underlying e=some (.int .u8)){l:List UInt8}(hx:a.eval x=.string ⟨l.toArray⟩)(hl:l.length<=140737488355328)(h:∀ a' c' w',Bs w' a' l.length c' l->Below w.heap.size w w'->Free w' w.heap.size a' l.length c'->wpList P ops Q rest (a.put o.dst (.slice a' l.length c')) w'):wpList P ops Q (o::rest) a w:=by
 have hr:=Lib.run_convert_string_bytes (P:=P) w src dst e ⟨l.toArray⟩ hs hd he;refine bI hgd _ _ ?_ (h _ _ _ (FC w e l hl) (bytesWorld_below w e _) (AB w e l hl));simp[execOp,ho,hx,hr,Result.andThen,ByteArray.size]
end
theorem Ma(c:Nat)(hc:c<=64)(w:World):Calls qp0 141 #[.string ⟨#[48]⟩,.int .i64 c] w fun e w'=>e=.returned (.string ⟨(List.replicate c (48:UInt8)).toArray⟩)/\Below w.heap.size w w':=by
 by_cases h0:c=0
 .subst h0;exact(Tryz.strings_Repeat_zero ⟨#[48]⟩ w).mono fun e w' ⟨he,hw⟩=>⟨he,by rw[hw];exact Below.refl _ _⟩
 .by_cases h1:c=1
  .subst h1;exact(Tryz.strings_Repeat_one ⟨#[48]⟩ w).mono fun e w' ⟨he,hw⟩=>⟨he,by rw[hw];exact Below.refl _ _⟩
  .refine(Tryz.strings_Repeat_main ⟨#[48]⟩ c w (by omega) (by omega) (by show 1*c<=_;omega) (by decide)).mono fun e w' ⟨he,hw⟩=>⟨?_,hw⟩
   have:Lib.repeatL [48] c=List.replicate c 48:=by
    have:=Lib.repeatL_replicate 48 1 c
    rwa [qbK] at this
   rw[he,<-this]
theorem Q8(x y:List UInt8):(⟨x.toArray⟩:ByteArray)++⟨y.toArray⟩=⟨(x++y).toArray⟩:=by
 apply qb2;simp
theorem Kz(v n:Nat)(hn:qL v<=n):List.replicate (n-qL v) 48++bf v (qL v)=bf v n:=by
 have:=BG v (qL v) (KL v) (n-qL v);rw[<-this,show qL v+(n-qL v)=n by omega]
theorem uX(v n:Int)(w:World)(hT:EZ w)(v0:-9223372036854775808<=v)(v1:v<=9223372036854775807)(n0:-9223372036854775808<=n)(n1:n<=9223372036854775807):Calls qp0 107 #[.int .i64 v,.int .i64 n] w (mI w (Plain.fA v n)):=by
 rcases sJ v n with⟨h,e⟩|⟨h1,h2,h3,e⟩|⟨h1,h2,h3,h4,e⟩
 .rw[e];clear e;rcases h with h|h
  all_goals
   go_enter func107,ntmps107;go_wp2
   all_goals
    go_ret2;exact mI.nil _ (Below.refl _ _)
 .rw[e];clear e;by_cases hneg:v<0
  .clear h3;go_enter func107,ntmps107;go_wp2
   go_ret2;exact mI.nil _ (Below.refl _ _)
  .obtain⟨u,rfl⟩:=Xq (by omega:0<=v);obtain⟨m,rfl⟩:=Xq (by omega:0<=n);have hlen:(m:Int) - 1<((bf u (qL u)).length:Int):=by
    have h4:¬ u<8^(m - 1):=by rcases h3 with h3|h3;exact absurd h3 hneg;simpa using h3
    have h5:¬ qL u<=m - 1:=fun h=>h4 ((Rj u (m - 1) (by omega)).1 h)
    unfold bf;rw[cu];omega
   have HF:=ah (zU u (by omega) w hT);generalize bf u (qL u)=s at *
   clear h3;go_enter func107,ntmps107;go_wp2_with (go_at_call 140;(with_reducible refine(HF.out).mono ?_);rintro e w1 ⟨rfl,hb⟩)
   go_ret2;exact mI.nil _ hb
 .rw[e];clear e;obtain⟨u,rfl⟩:=Xq h3;obtain⟨m,rfl⟩:=Xq (by omega:0<=n);simp only[Int.toNat_natCast] at h4 ⊢;have h5:qL u<=m - 1:=(Rj u (m - 1) (by omega)).2 h4;have hlen:(bf u (qL u)).length=qL u:=by unfold bf;rw[cu]
  have htx:=Kz u (m - 1) h5;have hll:(bf u (m - 1)).length=m - 1:=by unfold bf;rw[cu]
  have HF:=ah (zU u (by omega) w hT);obtain⟨c,hc⟩:∃ c:Nat,(m:Int) - 1-((bf u (qL u)).length:Int)=(c:Int):=⟨m - 1-qL u,by rw[hlen];omega⟩
  have hcc:m - 1-qL u=c:=by rw[hlen] at hc;omega
  have hle:((bf u (qL u)).length:Int)<=(m:Int) - 1:=by rw[hlen];omega
  rw[hcc] at htx;generalize bf u (m - 1)=t at *
  generalize bf u (qL u)=s at *
  have HR:=ah (fun w=>Ma c (by omega) w);have hs1:=Q8 (List.replicate c 48) s;have hs2:=Q8 t [0];rw[htx] at hs1;have htl:t.length<=63:=by omega
  have hz1:(List.replicate c (48:UInt8)).length<=64:=by rw[Xm];omega
  have ahR:s.length<=64:=by omega
  have hti:(t.length:Int)<=63:=by omega
  clear htx hcc hlen h4 hll;generalize List.replicate c (48:UInt8)=z at *
  go_enter func107,ntmps107;go_wp2_with (first|(go_at_call 140;(with_reducible refine(HF.out).mono ?_);rintro e w1 ⟨rfl,hb⟩)|(go_at_call 141;(with_reducible refine(HR.out _).mono ?_);rintro e w2 ⟨rfl,hb2⟩)|((with_reducible refine yM rfl _ _ _ rfl underlying9 underlying22 underlying5 rfl (by rw[vG];simp only[qcn];omega) ?_);intro a3 c3 w3 agN hb3 hf3))
  have ahs:Bs w3 a3 (t.length+1) c3 (t++[0]):=by have:=agN;rwa [vG] at this
  go_ret2;have hf4:Free w3 w2.heap.size a3 (t.length+1) c3:=by have:=hf3;rwa [vG] at this
  exact⟨a3,_,c3,rfl,ahs,Below.seq (Below.seq hb hb2) hb3,hf4.base (Below.seq hb hb2).size⟩
theorem Jt(v n:Int)(w:World)(hT:EZ w)(v0:-9223372036854775808<=v)(v1:v<=9223372036854775807)(n0:-9223372036854775808<=n)(n1:n<=9223372036854775807):Calls qp0 107 #[.int .i64 v,.int .i64 n] w (Qb w (Plain.fA v n)):=(uX v n w hT v0 v1 n0 n1).mono fun _ _ h=>h.res
end
theorem ko.keep{w wr w':World}{e:TypeId}{l:List UInt8}(h:ko w e l wr)(k:Below wr.heap.size wr w'):ko w e l w':=by
 refine⟨Below.seq h.bJ k,?_⟩;rw[k.block _ (fT.1 h.row).1];exact h.row
theorem ko.field{w wr:World}{e:TypeId}{l:List UInt8}(h:ko w e l wr)(hl:l.length=512):Bs wr (some ⟨w.heap.size,148,none⟩) (156 - 148) (512 - 148) (nO l) :=Nj h.row 148 156 (512 - 148) (by decide) (by omega) (by decide) (by unfold maxLen;omega)
theorem TB(l:List UInt8)(n1 n2 U S:Int)(h:Plain.number (nO l)=(n1,n2))(hU:Plain.sum uby l=U)(hS:Plain.sum Ju l=S):Plain.sealed l=(n2==0&&(n1==U||n1==S)):=by
 unfold Plain.sealed;rw[h,hU,hS,qbG];simp
theorem vE(l:List UInt8)(hl:l.length=512)(w:World)(ev:Value)(hE:eO w ev):Calls qp0 38 #[.agg (aL l)] w fun e w'=>e=.returned (.bool (Plain.sealed l))/\Below w.heap.size w w':=by
 have HR:=ah (ko.new w 70 l);have HS:=ah (fun w=>KX l hl w);have HI:=ah (iL l hl);have HL:=ah hl;have HE:=ah hE;have hq:=TB l;generalize hn:Plain.number (nO l)=r at *
 obtain⟨n1,n2⟩:=r;generalize hU:Plain.sum uby l=U at *
 generalize hV:Plain.sum Ju l=V at *
 have hq2:=hq n1 n2 U V rfl rfl rfl;have HN:=ah hn;have HQ:=ah hq2;clear hq hq2 hl hE hn hU hV;go_enter func38,ntmps38;go_wp2_with (with_reducible refine dO rfl _ _ rfl (aL l) rfl ?_)
 have hR:=HR.out;generalize w.alloc (.cells (aL l) 70)=wa at *
 have HRR:=ah hR;clear hR HR;go_wp2_with (first|(go_at_call 72;(refine(qM _ _ _ (nO l) wa ev (by exact HRR.out.field HL.out) (by decide) (by exact HE.out.below HRR.out.bJ)).mono ?_);rintro e w1 ⟨rfl,hb1⟩;rw[HN.out];unfold nU;have HR1:=ah (HRR.out.keep hb1);have H1:=ah HR1.out.row;clear hb1)|(with_reducible refine wpList_load_row rfl _ _ rfl w.heap.size rfl 70 (aL l) (0,0) _ H1.out underlying70 rfl HI.out ?_)|(go_at_call 73;(with_reducible refine(HS.out _).mono ?_);rintro e w2 ⟨rfl,hb2⟩;have HB2:=ah (Below.seq HR1.out.bJ hb2);clear hb2))
 all_goals
  go_ret;refine⟨yw ?_,HB2.out⟩;rw[HQ.out]
  first|rfl|simp_all
theorem results_cell_tmp{P:Program}{fn:Func}{p q:Tmp}{ty:TypeId}(h:fn.results=#[.cell p ty,.tmp q])(tmps:Array Value)(w:World)(g:Nat)(t:TypeId)(cs:Array Value)(fr:Nat×Nat)(d:TypeDesc)(v:Value)(hp:tmps.getD p undef=.pointer (some ⟨g,0,none⟩))(hq:tmps.getD q undef=v)(hg:w.heap[g]? = some (.cells cs t fr))(hu:P.underlying ty=some d)(hd:(match d with|.struct _|.array _ _=>true|_=>false)=true)(hi:(P.info? ty).map (·.size)=some cs.size):(results fn tmps).run P w=.ok (.tuple #[.agg cs,v]) w:=by
 have hp':tmps[p]?.getD undef=.pointer (some ⟨g,0,none⟩):=by simpa using hp
 have hq':tmps[q]?.getD undef=v:=by simpa using hq
 simp[results,h,hp',hq',asAddr,run_loadVar_row w g t ty cs fr d hg hu hd hi]
def dQ(h:Hd):Array Value:=#[.string ⟨h.name.toArray⟩,.string ⟨h.link.toArray⟩,.int .i64 h.mode,.int .i64 h.uid,.int .i64 h.gid,.int .i64 h.size,.int .i64 h.mtime,.int .u8 (h.ty.toNat:Int),.string ⟨h.user.toArray⟩,.string ⟨h.group.toArray⟩,.int .i64 h.major,.int .i64 h.minor,.int .i64 h.form]
theorem Zc(h:Hd):(dQ h).size=13:=rfl
theorem jP(h:Hd):∀ u∈(dQ h).toList,u.oneCell'=true:=by
 intro u hu;simp[dQ] at hu;rcases hu with h|h|h|h|h|h|h|h|h|h|h|h|h <;> subst h <;> rfl
theorem mo(h:Hd):(qp0.info? 74).map (·.size)=some (dQ h).size:=by rw[Zc];kernel_rfl
def Km(r:Hd×Int):Value:=.tuple #[.agg (dQ r.1),.int .i64 r.2]
structure H2(w:World)(l:List UInt8)(wr:World):Prop where
 bJ:Below w.heap.size w wr
 r0:wr.heap[w.heap.size]? = some (.cells (aL l) 70 (0,0))
 r1:wr.heap[w.heap.size+1]? = some (.cells (dQ Hd.zero) 74 (0,0))
theorem H2.new(w:World)(l:List UInt8):H2 w l ((w.alloc (.cells (aL l) 70)).alloc (.cells (dQ Hd.zero) 74)) :=⟨((Below.refl _ _).alloc (aY _) _).alloc (by simp) _,heap_alloc2_old _ _ _,heap_alloc2_new _ _ _⟩
theorem H2.lit(w:World)(l:List UInt8):H2 w l ((w.alloc (.cells (aL l) 70)).alloc (.cells #[.string ⟨#[]⟩,.string ⟨#[]⟩,.int .i64 0,.int .i64 0,.int .i64 0,.int .i64 0,.int .i64 0,.int .u8 0,.string ⟨#[]⟩,.string ⟨#[]⟩,.int .i64 0,.int .i64 0,.int .i64 0] 74)):=H2.new w l
theorem H2.lt{w wr:World}{l:List UInt8}(h:H2 w l wr):w.heap.size+1<wr.heap.size:=(fT.1 h.r1).1
theorem H2.keep{w wr w':World}{l:List UInt8}(h:H2 w l wr)(k:Below wr.heap.size wr w'):H2 w l w':=by
 refine⟨Below.seq h.bJ k,?_,?_⟩
 .rw[k.block _ (fT.1 h.r0).1];exact h.r0
 .rw[k.block _ h.lt];exact h.r1
theorem H2.part{w wr:World}{l:List UInt8}(h:H2 w l wr)(hl:l.length=512)(s e:Nat)(h1:s<=e)(h2:e<=512):Bs wr (some ⟨w.heap.size,s,none⟩) (e-s) (512-s) (eH l s e) :=Nj h.r0 s e (512-s) h1 (by omega) (by omega) (by unfold maxLen;omega)
theorem Lx(l:List UInt8)(hl:l.length=512)(w:World)(ev:Value)(hE:eO w ev)(h:l=cZ\/Plain.sealed l=false):Calls qp0 113 #[.agg (aL l)] w fun e w'=>e=.returned (Km (Plain.hread l))/\Below w.heap.size w w':=by
 have hr:Plain.hread l=(Hd.zero,if l=cZ then 40 else 41):=by
  unfold Plain.hread;by_cases c:l=cZ
  .rw[if_pos c,if_pos c]
  .rw[if_neg c,if_neg c,if_pos (h.resolve_left c)]
 rw[hr];have HH:=ah (H2.lit w l);have HI:=ah (iL l hl);have HD:=ah (mo Hd.zero);have HO:=ah (jP Hd.zero);have HZ:=ah (fun w=>CK l hl w);have HS:=ah (fun w hE=>vE l hl w ev hE);have HE:=ah hE;clear hE hr;by_cases c:l=cZ
 .rw[if_pos c];have hd:decide (l=cZ)=true:=uQ c;rw[hd] at HZ;clear h c hd HS;go_enter func113,ntmps113;go_upto_region 1 with(with_reducible refine dO rfl _ _ rfl (aL l) rfl ?_)
  have hR:=HH.out;generalize (w.alloc (.cells (aL l) 70)).alloc (.cells #[.string ⟨#[]⟩,.string ⟨#[]⟩,.int .i64 0,.int .i64 0,.int .i64 0,.int .i64 0,.int .i64 0,.int .u8 0,.string ⟨#[]⟩,.string ⟨#[]⟩,.int .i64 0,.int .i64 0,.int .i64 0] 74)=wa at *
  have HR:=ah hR;clear hR HH;go_wp2_with (first|(with_reducible refine wpList_load_row rfl _ _ rfl w.heap.size rfl 70 (aL l) (0,0) _ HR.out.r0 underlying70 rfl HI.out ?_)|(go_at_call 144;(with_reducible refine(HZ.out _).mono ?_);rintro e w1 ⟨rfl,hb1⟩;have HR1:=ah (HR.out.keep hb1);clear hb1)|(with_reducible refine wpList_store_row rfl 74 _ _ rfl (w.heap.size+1) rfl (dQ Hd.zero) rfl (dQ Hd.zero) 74 HR1.out.r1 rfl HD.out HO.out ?_))
  refine bodyPost_ret (results_cell_tmp rfl _ _ (w.heap.size+1) 74 (dQ Hd.zero) (0,0) _ _ rfl rfl (setRow_heap _ _ _ _ _ _ HR1.out.r1) underlying74 rfl HD.out) rfl ⟨rfl,Below.setRow HR1.out.bJ (by omega) _⟩
 .rw[if_neg c];have hd:decide (l=cZ)=false:=uU c;rw[hd] at HZ;rw[h.resolve_left c] at HS;clear h c hd;go_enter func113,ntmps113;go_upto_region 1 with(with_reducible refine dO rfl _ _ rfl (aL l) rfl ?_)
  have hR:=HH.out;generalize (w.alloc (.cells (aL l) 70)).alloc (.cells #[.string ⟨#[]⟩,.string ⟨#[]⟩,.int .i64 0,.int .i64 0,.int .i64 0,.int .i64 0,.int .i64 0,.int .u8 0,.string ⟨#[]⟩,.string ⟨#[]⟩,.int .i64 0,.int .i64 0,.int .i64 0] 74)=wa at *
  have HR:=ah hR;clear hR HH;go_wp2_with (first|(with_reducible refine wpList_load_row rfl _ _ rfl w.heap.size rfl 70 (aL l) (0,0) _ HR.out.r0 underlying70 rfl HI.out ?_)|(go_at_call 144;(with_reducible refine(HZ.out _).mono ?_);rintro e w1 ⟨rfl,hb1⟩;have HR1:=ah (HR.out.keep hb1);clear hb1)|(with_reducible refine wpList_load_row rfl _ _ rfl w.heap.size rfl 70 (aL l) (0,0) _ HR1.out.r0 underlying70 rfl HI.out ?_)|(go_at_call 38;(with_reducible refine(HS.out _ (by exact HE.out.below HR1.out.bJ)).mono ?_);rintro e w2 ⟨rfl,hb2⟩;have HR2:=ah (HR1.out.keep hb2);clear hb2)|(with_reducible refine wpList_store_row rfl 74 _ _ rfl (w.heap.size+1) rfl (dQ Hd.zero) rfl (dQ Hd.zero) 74 HR2.out.r1 rfl HD.out HO.out ?_))
  refine bodyPost_ret (results_cell_tmp rfl _ _ (w.heap.size+1) 74 (dQ Hd.zero) (0,0) _ _ rfl rfl (setRow_heap _ _ _ _ _ _ HR2.out.r1) underlying74 rfl HD.out) rfl ⟨rfl,Below.setRow HR2.out.bJ (by omega) _⟩
section
def Zr(l:List UInt8)(k:Nat):Int×Int:=mD l (fieldAt k).1 (fieldAt k).2.1
def wW(l:List UInt8)(k:Nat):Bool:=rQ (Zr l k) (fieldAt k).2.2.1 (fieldAt k).2.2.2
theorem FV(l:List UInt8):nK l=(wW l 0&&wW l 1&&wW l 2&&wW l 3&&wW l 4&&(!om l||(wW l 5&&wW l 6))):=rfl
theorem M9(l:List UInt8)(k:Nat)(hk:k<7)(h5:k<5\/om l=true)(h:wW l k=false):nK l=false:=by
 rw[FV];rcases (by omega:k=0\/k=1\/k=2\/k=3\/k=4\/k=5\/k=6) with rfl|rfl|rfl|rfl|rfl|rfl|rfl
 .simp[h]
 .simp[h]
 .simp[h]
 .simp[h]
 .simp[h]
 .simp[h,h5.resolve_left (by decide)]
 .simp[h,h5.resolve_left (by decide)]
theorem KC(l:List UInt8)(k:Nat)(hk:k=7\/(k=5/\om l=false))(h:∀ j,j<k->wW l j=true):nK l=true:=by
 rw[FV];rcases hk with rfl|⟨rfl,hd⟩
 .rw[h 0 (by decide),h 1 (by decide),h 2 (by decide),h 3 (by decide),h 4 (by decide),h 5 (by decide),h 6 (by decide)];simp
 .rw[h 0 (by decide),h 1 (by decide),h 2 (by decide),h 3 (by decide),h 4 (by decide),hd];simp
theorem Wm(l:List UInt8)(k:Nat):wW l k=true↔(Zr l k).2=0/\(fieldAt k).2.2.1<=(Zr l k).1/\(Zr l k).1<=(fieldAt k).2.2.2:=by unfold wW rQ;simp
theorem qm(k:Nat)(h:k<7):(fieldAt k).1<=(fieldAt k).2.1/\(fieldAt k).2.1<=345/\(fieldAt k).1<345:=by
 rcases (by omega:k=0\/k=1\/k=2\/k=3\/k=4\/k=5\/k=6) with rfl|rfl|rfl|rfl|rfl|rfl|rfl <;> decide
def Oc(l:List UInt8)(k:Nat):List Int:=(List.range 7).map fun j=>if j<k then(Zr l j).1 else 0
theorem QW(l:List UInt8)(k:Nat):(Oc l k).length=7:=by simp[Oc]
theorem aaO(l:List UInt8)(k:Nat)(h:k<7):(Oc l k).set k (Zr l k).1=Oc l (k+1):=by
 apply List.ext_getElem (by simp[Oc]);intro i h1 h2;simp only[Oc,V7,List.length_range] at h2;rw[List.getElem_set];simp only[Oc,List.getElem_map,List.getElem_range];by_cases e:k=i
 .subst e;simp
 .rw[if_neg e];by_cases h3:i<k
  .rw[if_pos h3,if_pos (by omega)]
  .rw[if_neg h3,if_neg (by omega)]
def vC(vs:List Int):Array Value:=(vs.map (Value.int .i64)).toArray
theorem adZ(vs:List Int)(k:Nat)(x:Int):(vC vs).setIfInBounds k (.int .i64 x)=vC (vs.set k x):=by simp[vC,List.map_set]
theorem abT(vs:List Int)(k:Nat)(h:k<vs.length):(vC vs)[k]? = some (.int .i64 (vs.getD k 0)):=by simp[vC,List.getD,kM h]
structure H3(w:World)(l:List UInt8)(gh:Nat)(h:Hd)(wr:World):Prop where
 two:H2 w l wr
 ge:w.heap.size+2<=gh
 rh:wr.heap[gh]? = some (.cells (dQ h) 74 (0,0))
theorem H3.lt{w wr:World}{l:List UInt8}{gh:Nat}{h:Hd}(k:H3 w l gh h wr):gh<wr.heap.size:=(fT.1 k.rh).1
theorem H3.keep{w wr w':World}{l:List UInt8}{gh:Nat}{h:Hd}(x:H3 w l gh h wr)(k:Below wr.heap.size wr w'):H3 w l gh h w' :=⟨x.two.keep k,x.ge,by rw[k.block _ x.lt];exact x.rh⟩
theorem H3.cell{w wr:World}{l:List UInt8}{gh:Nat}{h:Hd}(x:H3 w l gh h wr)(k:Nat):wr.cell? ⟨gh,k,none⟩=(dQ h)[k]?:=by rw[cell_of_row _ _ _ _ _ _ x.rh]
theorem H3.free{w wr:World}{l:List UInt8}{gh:Nat}{h:Hd}(x:H3 w l gh h wr)(k:Nat):wr.frozen? ⟨gh,k,none⟩=false:=frozen_of_row _ _ _ _ _ x.rh
theorem H2.setOther{w wr:World}{l:List UInt8}(x:H2 w l wr){g k:Nat}(hg:w.heap.size+2<=g)(v:Value):H2 w l (wr.setCell ⟨g,k,none⟩ v):=by
 refine⟨x.bJ.setCell (show w.heap.size<=(⟨g,k,none⟩:Addr).block from by simp only;omega) v,?_,?_⟩
 .rw[heap_setCell_other _ _ _ _ (by simp only;omega)];exact x.r0
 .rw[heap_setCell_other _ _ _ _ (by simp only;omega)];exact x.r1
theorem H3.set{w wr:World}{l:List UInt8}{gh:Nat}{h h':Hd}(x:H3 w l gh h wr)(k:Nat)(v:Value)(e:(dQ h).setIfInBounds k v=dQ h'):H3 w l gh h' (wr.setCell ⟨gh,k,none⟩ v) :=⟨x.two.setOther x.ge v,x.ge,by rw[heap_setCell_same _ _ _ _ _ _ x.rh,e]⟩
structure H4(w:World)(l:List UInt8)(gh:Nat)(h:Hd)(gv:Nat)(vs:List Int)(wr:World):Prop where
 three:H3 w l gh h wr
 ge:gh<gv
 rv:wr.heap[gv]? = some (.cells (vC vs) 130 (0,0))
theorem H4.lt{w wr:World}{l:List UInt8}{gh:Nat}{h:Hd}{gv:Nat}{vs:List Int}(k:H4 w l gh h gv vs wr):gv<wr.heap.size:=(fT.1 k.rv).1
theorem H4.keep{w wr w':World}{l:List UInt8}{gh:Nat}{h:Hd}{gv:Nat}{vs:List Int}(x:H4 w l gh h gv vs wr)(k:Below wr.heap.size wr w'):H4 w l gh h gv vs w' :=⟨x.three.keep k,x.ge,by rw[k.block _ x.lt];exact x.rv⟩
theorem H4.cell{w wr:World}{l:List UInt8}{gh:Nat}{h:Hd}{gv:Nat}{vs:List Int}(x:H4 w l gh h gv vs wr)(k:Nat)(hk:k<vs.length):wr.cell? ⟨gv,k,none⟩=some (.int .i64 (vs.getD k 0)):=by
 rw[cell_of_row _ _ _ _ _ _ x.rv,abT _ _ hk]
theorem H4.free{w wr:World}{l:List UInt8}{gh:Nat}{h:Hd}{gv:Nat}{vs:List Int}(x:H4 w l gh h gv vs wr)(k:Nat):wr.frozen? ⟨gv,k,none⟩=false:=frozen_of_row _ _ _ _ _ x.rv
theorem H4.put{w wr:World}{l:List UInt8}{gh:Nat}{h:Hd}{gv:Nat}{vs:List Int}(x:H4 w l gh h gv vs wr)(k:Nat)(v:Int):H4 w l gh h gv (vs.set k v) (wr.setCell ⟨gv,k,none⟩ (.int .i64 v)):=by
 have h1:=x.three.ge;have h2:=x.ge;exact⟨⟨x.three.two.setOther (by omega) _,x.three.ge,by rw[heap_setCell_other _ _ _ _ (by simp only;omega)];exact x.three.rh⟩,x.ge,by rw[heap_setCell_same _ _ _ _ _ _ x.rv,adZ]⟩
theorem H4.set{w wr:World}{l:List UInt8}{gh:Nat}{h h':Hd}{gv:Nat}{vs:List Int}(x:H4 w l gh h gv vs wr)(k:Nat)(v:Value)(e:(dQ h).setIfInBounds k v=dQ h'):H4 w l gh h' gv vs (wr.setCell ⟨gh,k,none⟩ v):=by
 have h2:=x.ge;exact⟨x.three.set k v e,x.ge,by rw[heap_setCell_other _ _ _ _ (by simp only;omega)];exact x.rv⟩
theorem xw(k:Nat)(hk:k<7)(w:World):(Instr.index 133 (.agg nW) (.int .i64 (k:Int))).run qp0 w=.ok (.agg (Cj k).toArray) w:=by
 rcases (by omega:k=0\/k=1\/k=2\/k=3\/k=4\/k=5\/k=6) with rfl|rfl|rfl|rfl|rfl|rfl|rfl <;> kernel_rfl
section
variable {P:Program}{ops:Array Oper}{rest:List Oper}{o:Oper}{a:Act}{w:World}{Q:Exit->Act->World->Prop}
theorem je(hgd:o.guard=none)(t:TypeId)(y x:Operand)(ho:o.op=.index t y x){vy vx:Value}(hy:a.eval y=vy)(hx:a.eval x=vx)(v:Value)(hr:(Instr.index t vy vx).run P w=.ok v w)(h:wpList P ops Q rest (a.put o.dst v) w):wpList P ops Q (o::rest) a w:=by
 refine bI hgd _ _ ?_ h;simp[execOp,ho,hy,hx,hr,Result.andThen]
end
end
structure afM(h:Hd):Prop where
 name:h.name.length<=140737488351232
 link:h.link.length<=140737488351232
 user:h.user.length<=140737488351232
 group:h.group.length<=140737488351232
def Na(s:List UInt8)(n:Int):Bool:=decide ((s.length:Int)<=n)&&decide (Lib.indexByte s 0<0)
theorem abI(l:List UInt8):(0:UInt8)∈l↔0<=Lib.indexByte l 0:=by
 constructor
 .intro h;rcases Int.lt_or_le (Lib.indexByte l 0) 0 with h0|h0
  .exfalso;obtain⟨k,hk,he⟩:=qbz h;exact Plain.indexByte_none l h0 k hk (by simp[List.getD,kM hk,he])
  .exact h0
 .intro h;obtain⟨j,hj,h0⟩:=Plain.indexByte_some l h;have:l[j]=0:=by simpa[List.getD,kM hj] using h0
  rw[<-this];exact VE hj
theorem CZ(s:List UInt8)(n:Nat):Na s n=true↔s.length<=n/\(0:UInt8)∉s:=by
 unfold Na;rw[abI,fE,decide_eq_true_eq,decide_eq_true_eq];omega
def Ct(h:Hd):Nat->Int
 | 0=>h.mode
 | 1=>h.uid
 | 2=>h.gid
 | 3=>h.size
 | 4=>h.mtime
 | 5=>h.major
 | _=>h.minor
def JI(k:Nat):Int:=((fieldAt k).2.1:Int)-((fieldAt k).1:Int)
def Cu(h:Hd)(k:Nat):Bool:=decide ((Plain.put (Ct h k) (JI k)).2=0/\(fieldAt k).2.2.1<=Ct h k/\Ct h k<=(fieldAt k).2.2.2)
def Va(h:Hd):Bool:=decide ((Plain.split h.name).2.2=0)&&(Na h.link 100&&(Na h.user 32&&(Na h.group 32&&decide (h.ty≠0))))
theorem Ms(h:Hd)(hi:Ol h):rO h=true↔Va h=true/\∀ k,k<7->Cu h k=true:=by
 have b1:=(gM h.mode).1 hi.mode;have b2:=(gM h.size).1 hi.size;have b3:=(gM h.major).1 hi.major;have b4:=(gM h.minor).1 hi.minor;have f1:=CZ h.link 100;have f2:=CZ h.user 32;have f3:=CZ h.group 32;unfold rO Va;simp only[fE,decide_eq_true_eq];have e100:((100:Nat):Int)=100:=rfl;have e32:((32:Nat):Int)=32:=rfl;rw[e100] at f1;rw[e32] at f2 f3;rw[f1,f2,f3];have hk:(∀ k,k<7->Cu h k=true)↔(Cu h 0=true/\Cu h 1=true/\Cu h 2=true/\Cu h 3=true/\Cu h 4=true/\Cu h 5=true/\Cu h 6=true):=by
  constructor
  .intro a;exact⟨a 0 (by decide),a 1 (by decide),a 2 (by decide),a 3 (by decide),a 4 (by decide),a 5 (by decide),a 6 (by decide)⟩
  .rintro⟨a0,a1,a2,a3,a4,a5,a6⟩ k hk;rcases (by omega:k=0\/k=1\/k=2\/k=3\/k=4\/k=5\/k=6) with rfl|rfl|rfl|rfl|rfl|rfl|rfl
   .exact a0
   .exact a1
   .exact a2
   .exact a3
   .exact a4
   .exact a5
   .exact a6
 rw[hk];have k0:Cu h 0=decide ((Plain.put h.mode 8).2=0/\0<=h.mode/\h.mode<=9223372036854775807):=rfl;have k1:Cu h 1=decide ((Plain.put h.uid 8).2=0/\0<=h.uid/\h.uid<=2147483647):=rfl;have k2:Cu h 2=decide ((Plain.put h.gid 8).2=0/\0<=h.gid/\h.gid<=2147483647):=rfl;have k3:Cu h 3=decide ((Plain.put h.size 12).2=0/\0<=h.size/\h.size<=9223372036854775807):=rfl;have k4:Cu h 4=decide ((Plain.put h.mtime 12).2=0/\-1099511627776<=h.mtime/\h.mtime<=1099511627776):=rfl;have k5:Cu h 5=decide ((Plain.put h.major 8).2=0/\0<=h.major/\h.major<=9223372036854775807):=rfl;have k6:Cu h 6=decide ((Plain.put h.minor 8).2=0/\0<=h.minor/\h.minor<=9223372036854775807):=rfl;rw[k0,k1,k2,k3,k4,k5,k6];simp only[decide_eq_true_eq];constructor
 .rintro⟨⟨⟨g1,g2,g3,g4,g5,g6,g7,g8⟩,m1,m2,m3,m4,m5,m6,m7,m8,m9,m10⟩,p1,p2,p3,p4,p5,p6,p7⟩;refine⟨⟨g1,⟨g2,g5⟩,⟨g3,g6⟩,⟨g4,g7⟩,g8⟩,⟨p1,m1,by omega⟩,⟨p2,m5,m6⟩,⟨p3,m7,m8⟩,⟨p4,m2,by omega⟩,⟨p5,m9,m10⟩,⟨p6,m3,by omega⟩,⟨p7,m4,by omega⟩⟩
 .rintro⟨⟨g1,⟨g2,g5⟩,⟨g3,g6⟩,⟨g4,g7⟩,g8⟩,⟨p1,m1,_⟩,⟨p2,m5,m6⟩,⟨p3,m7,m8⟩,⟨p4,m2,_⟩,⟨p5,m9,m10⟩,⟨p6,m3,_⟩,⟨p7,m4,_⟩⟩;exact⟨⟨⟨g1,g2,g3,g4,g5,g6,g7,g8⟩,m1,m2,m3,m4,m5,m6,m7,m8,m9,m10⟩,p1,p2,p3,p4,p5,p6,p7⟩
def MZ(h:Hd):Nat->List UInt8
 | 0=>cZ
 | k+1=>lay (MZ h k) (fieldAt k).1 (Plain.put (Ct h k) (JI k)).1
theorem XH(h:Hd)(hi:Ol h)(k:Nat):iF (Ct h k)=true:=by
 rcases k with _|_|_|_|_|_|k
 .exact hi.mode
 .exact hi.uid
 .exact hi.gid
 .exact hi.size
 .exact hi.mtime
 .exact hi.major
 .exact hi.minor
theorem mX(h:Hd)(hi:Ol h)(k:Nat)(hk:k<7)(ho:Cu h k=true):(Plain.put (Ct h k) (JI k)).1.length=(fieldAt k).2.1-(fieldAt k).1:=by
 have hb:=qm k hk;unfold Cu at ho;rw[decide_eq_true_eq] at ho;refine aau (Ct h k) (JI k) (XH h hi k) ho.1 _ ?_;unfold JI;omega
theorem QK(h:Hd)(hi:Ol h):∀ k,k<=7->(∀ j,j<k->Cu h j=true)->(MZ h k).length=512
 | 0,_,_=>nS
 | k+1,hk,ho=>by
  have ih:=QK h hi k (by omega) (fun j hj=>ho j (by omega));have hb:=qm k (by omega);have hl:=mX h hi k (by omega) (ho k (by omega));show(lay (MZ h k) (fieldAt k).1 _).length=512;rw[gF _ _ _ (by rw[ih,hl];omega),ih]
def adE(h:Hd):List UInt8 :=lay (lay (lay (lay (lay (lay (lay (MZ h 7) 0 (Plain.split h.name).2.1) 156 [h.ty]) 157 h.link) 257 dB) 265 h.user) 297 h.group) 345 (Plain.split h.name).1
theorem ZE(h:Hd)(hi:Ol h)(hg:rO h=true):adE h=oZ h:=by
 have hg2:=(Ms h hi).1 hg;have ho:=hg2.2;unfold rO at hg;rw[fE,fE,decide_eq_true_eq,decide_eq_true_eq,decide_eq_true_eq] at hg;obtain⟨⟨⟨g1,g2,g3,g4,g5,g6,g7,g8⟩,_⟩,_⟩:=hg;have hsp:∃ p s,Plain.split h.name=(p,s,0)/\Plain.Well h.name p s:=by
  rcases Plain.zZ h.name with h1|⟨h1,_⟩
  .exact h1
  .rw[h1] at g1;cases g1
 obtain⟨p,s,hps,hw⟩:=hsp;obtain⟨w1,w2,w3,w4⟩:=hw;have l0:=mX h hi 0 (by decide) (ho 0 (by decide));have l1:=mX h hi 1 (by decide) (ho 1 (by decide));have l2:=mX h hi 2 (by decide) (ho 2 (by decide));have l3:=mX h hi 3 (by decide) (ho 3 (by decide));have l4:=mX h hi 4 (by decide) (ho 4 (by decide));have l5:=mX h hi 5 (by decide) (ho 5 (by decide));have l6:=mX h hi 6 (by decide) (ho 6 (by decide));have hc:=O7 s (Plain.put (Ct h 0) (JI 0)).1 (Plain.put (Ct h 1) (JI 1)).1 (Plain.put (Ct h 2) (JI 2)).1 (Plain.put (Ct h 3) (JI 3)).1 (Plain.put (Ct h 4) (JI 4)).1 (Plain.put (Ct h 5) (JI 5)).1 (Plain.put (Ct h 6) (JI 6)).1 h.link h.user h.group p h.ty w2
  (Zj l0) (Zj l1) (Zj l2) (Zj l3) (Zj l4) (Zj l5) (Zj l6) g2 g3 g4 w3
 unfold adE oZ partsOf;rw[hps];exact hc
theorem UD(h:Hd)(hg:rO h=true):Plain.make h=(Plain.seal (oZ h),0):=by unfold Plain.make;rw[if_pos hg]
def bn(l:List UInt8):List UInt8:=l.takeWhile (· != 32)
def tK(u:List UInt8):Option (List UInt8×List UInt8) :=
 if (u.takeWhile (· != 61)).length<u.length/\u.takeWhile (· != 61)≠[] then some (u.takeWhile (· != 61),u.drop ((u.takeWhile (· != 61)).length+1)) else none
def nY(l:List UInt8)(d n:Nat):Option ((List UInt8×List UInt8)×Nat) :=
 if ((l.take n).drop (d+1)).getLast? = some 10 then(tK ((l.take n).drop (d+1)).dropLast).map fun p=>(p,n) else none
def Plain.one(l:List UInt8):Option ((List UInt8×List UInt8)×Nat) :=
 if (bn l).length<l.length/\(bn l).length<=9/\(Plain.decimal (bn l)).2=0/\(bn l).length+1<(Plain.decimal (bn l)).1.toNat/\(Plain.decimal (bn l)).1.toNat<=l.length
 then nY l (bn l).length (Plain.decimal (bn l)).1.toNat else none
theorem Jb(l:List UInt8)(h:l=[]\/l.all bg=false):(Plain.decimal l).2=10:=by
 unfold Plain.decimal;rw[if_pos];rcases h with h|h
 .exact .inl h
 .exact .inr (.inr h)
theorem Nb(l:List UInt8)(d n:Nat)(h1:d+1<n)(h2:n<=l.length):((l.take n).drop (d+1)).getLast? = some (l.getD (n - 1) 0)/\((l.take n).drop (d+1)).dropLast=(l.take (n - 1)).drop (d+1):=by
 have hlen:((l.take n).drop (d+1)).length=n-(d+1):=by rw[zW,zQ];omega
 constructor
 .rw[List.getLast?_eq_getElem?,hlen,qbE,VX];have hk:n - 1<l.length:=by omega
  rw[if_pos (by omega),show d+1+(n-(d+1) - 1)=n - 1 by omega];simp[List.getD,kM hk]
 .rw[List.dropLast_eq_take,hlen,List.take_drop,List.take_take,show min (d+1+(n-(d+1) - 1)) n=n - 1 by omega]
theorem Ob(l:List UInt8)(d n:Nat)(h1:d+1<n)(h2:n<=l.length):nY l d n=if l.getD (n - 1) 0=10 then(tK ((l.take (n - 1)).drop (d+1))).map (fun p=>(p,n)) else none:=by
 obtain⟨a,b⟩:=Nb l d n h1 h2;unfold nY;rw[a,b];by_cases h:l.getD (n - 1) 0=10
 .rw[if_pos (by rw[h]),if_pos h]
 .rw[if_neg (fun e=>h (pQ e)),if_neg h]
theorem Fg(u:List UInt8)(h:u.length<=1):tK u=none:=by
 unfold tK;rw[if_neg];rintro⟨h1,h2⟩;have:u.takeWhile (· != 61)=[]:=O8 (by omega);exact h2 this
theorem X8(l:List UInt8)(d n:Nat)(h1:d+1<n)(h2:n<=l.length)(h4:n<d+4):nY l d n=none:=by
 rw[Ob l d n h1 h2,Fg _ (by rw[zW,zQ];omega)];split <;> rfl
theorem tu(l:List UInt8)(p:List UInt8×List UInt8)(n:Nat)(h:Plain.one l=some (p,n)):5<=n/\n<=l.length:=by
 unfold Plain.one at h;split at h
 .rename_i hc
  obtain⟨h1,h2,h3,h4,h5⟩:=hc;have hn:n=(Plain.decimal (bn l)).1.toNat:=by
   unfold nY at h;split at h
   .rw[zA] at h;obtain⟨q,_,hq⟩:=h;exact(Prod.ext_iff.1 hq).2.symm
   .cases h
  have hpos:0<(bn l).length:=by
   rcases UZ (bn l).length with h0|h0
   .have:bn l=[]:=O8 h0;rw[Jb _ (.inl this)] at h3;cases h3
   .exact h0
  by_cases h4':(Plain.decimal (bn l)).1.toNat<(bn l).length+4
  .rw[X8 l _ _ h4 h5 h4'] at h;cases h
  .omega
 .cases h
def rM:Nat->List UInt8->Option (List (List UInt8×List UInt8))
 | 0,l=>if l=[] then some [] else none
 | f+1,l=>if l=[] then some [] else match Plain.one l with
  | none=>none
  | some (p,n)=>(rM f (l.drop n)).map (p::·)
theorem DF:∀ (f g:Nat)(l:List UInt8),l.length<=f->l.length<=g->rM f l=rM g l
 | 0,0,l,_,_=>rfl
 | 0,g+1,l,h,_=>by
  have:l=[]:=O8 (by omega);subst this;rfl
 | f+1,0,l,_,h=>by
  have:l=[]:=O8 (by omega);subst this;rfl
 | f+1,g+1,l,h1,h2=>by
  unfold rM;by_cases h0:l=[]
  .rw[if_pos h0,if_pos h0]
  .rw[if_neg h0,if_neg h0]
   cases ho:Plain.one l with
   | none=>rfl
   | some r =>
    obtain⟨p,n⟩:=r;have hb:=tu l p n ho;simp only
    rw[DF f g (l.drop n) (by rw[zW];omega) (by rw[zW];omega)]
def Plain.read(l:List UInt8):Option (List (List UInt8×List UInt8)):=rM l.length l
theorem WO:Plain.read []=some []:=rfl
theorem Ru(l:List UInt8)(h:l≠[])(ho:Plain.one l=none):Plain.read l=none:=by
 unfold Plain.read;obtain⟨m,hm⟩:∃ m,l.length=m+1:=⟨l.length - 1,by have:=qbQ.2 h;omega⟩
 rw[hm];unfold rM;rw[if_neg h,ho]
theorem SE(l:List UInt8)(p:List UInt8×List UInt8)(n:Nat)(ho:Plain.one l=some (p,n)):Plain.read l=(Plain.read (l.drop n)).map (p::·):=by
 have hb:=tu l p n ho;have h:l≠[]:=fun h0=>by subst h0;simp at hb;omega
 unfold Plain.read;obtain⟨m,hm⟩:∃ m,l.length=m+1:=⟨l.length - 1,by have:=qbQ.2 h;omega⟩
 rw[hm];conv=>lhs;unfold rM
 rw[if_neg h,ho];simp only
 rw[DF m (l.drop n).length (l.drop n) (by rw[zW];omega) (aY _)]
def nd(u:Nat):Nat:=(Lib.decDigits u).length
theorem Wn(u:Nat):1<=nd u:=qbQ.2 (IY u)
theorem aeA(u:Nat)(h:u<100000000000000000000):nd u<=20:=uK 19 u (by omega)
theorem aak:∀ (v u:Nat),u<=v->nd u<=nd v:=by
 intro v
 induction v using Nat.strongRecOn with
 | ind v ih =>
  intro u huv;by_cases h1:u<10
  .have e:nd u=1:=by unfold nd;rw[Lib.decDigits,dif_pos h1];rfl
   rw[e];exact Wn v
  .have h2:¬ v<10:=by omega
   have e1:nd u=nd (u / 10)+1:=by unfold nd;rw[Lib.decDigits,dif_neg h1,vG];rfl
   have e2:nd v=nd (v / 10)+1:=by unfold nd;rw[Lib.decDigits,dif_neg h2,vG];rfl
   have:=ih (v / 10) (by omega) (u / 10) (by omega);omega
def nN(base d:Nat):Prop:=nd (base+d)=d/\∀ d',d'<d->nd (base+d')≠d'
theorem Fu(base:Nat)(h:base+21<100000000000000000000):∃ d,d<=20/\nN base d:=by
 have key:∀ n,n<=21->(∃ d,d<n/\nN base d)\/(n<=nd (base+n)/\∀ d',d'<n->nd (base+d')≠d'):=by
  intro n
  induction n with
  | zero=>intro _;exact .inr ⟨M8 _,fun d' h=>absurd h (qbq _)⟩
  | succ n ih =>
   intro hn;rcases ih (by omega) with⟨d,h1,h2⟩|⟨h1,h2⟩
   .exact .inl ⟨d,by omega,h2⟩
   .by_cases he:nd (base+n)=n
    .exact .inl ⟨n,by omega,he,h2⟩
    .have:=aak (base+(n+1)) (base+n) (by omega);refine .inr ⟨by omega,fun d' hd'=>?_⟩;by_cases e:d'=n
     .subst e;exact he
     .exact h2 d' (by omega)
 rcases key 21 (aY _) with⟨d,h1,h2⟩|⟨h1,_⟩
 .exact⟨d,by omega,h2⟩
 .have:=aeA (base+21) h;omega
theorem nN.next{base d k:Nat}(h:nN base d)(hk:k<=d)(hne:nd (base+k)≠k):k+1<=d:=by
 by_cases e:k=d
 .subst e;exact absurd h.1 hne
 .omega
theorem nN.here{base d k:Nat}(h:nN base d)(hk:k<=d)(he:nd (base+k)=k):k=d:=by
 by_cases e:k=d
 .exact e
 .exact absurd he (h.2 k (by omega))
theorem nN.pos{base d:Nat}(h:nN base d):1<=d:=by
 have:=Wn (base+d);rw[h.1] at this;exact this
theorem V9(k v:List UInt8)(d:Nat)(w:World)(ht:lV w)(hk:k.length<=140737488351232)(hv:v.length<=140737488351232)(hd:nN (k.length+v.length+3) d)(ahJ:d<=20):Calls qp0 131 #[.agg #[.string ⟨k.toArray⟩,.string ⟨v.toArray⟩]] w fun e w'=>e=.returned (.int .i64 ((k.length+v.length+3+d:Nat):Int))/\Below w.heap.size w w':=by
 have hp1:=hd.pos;have HT:=ah ht;have HD:=ah hd;clear ht hd;go_enter func131,ntmps131;go_wp2
 go_loopw [4] (fun i wr=>∃ j:Nat,1<=j/\j<=d/\i=.int .i64 j/\Below w.heap.size w wr) (fun i _=>d-(intOf i).toNat)
 case atStart=>exact⟨1,by omega,hp1,rfl,(Below.refl _ _).alloc (aY _) _⟩
 case round =>
  obtain⟨j,hj1,hj,rfl,hb⟩:=hrel;have hS:=Vr ((k.length:Int)+v.length+3+j) (by omega) (by omega) wr (HT.out.below hb);have hlen:(Lib.itoa ((k.length:Int)+v.length+3+j)).length=nd (k.length+v.length+3+j):=by
   have e:((k.length:Int)+v.length+3+j)=((k.length+v.length+3+j:Nat):Int):=by omega
   rw[e,Lib.itoa_nonneg];rfl
  generalize Lib.itoa ((k.length:Int)+v.length+3+j)=s at *
  have HS:=ah hS;clear hS;by_cases he:nd (k.length+v.length+3+j)=j
  .obtain rfl:=HD.out.here hj he;rw[he] at hlen;have hq:((s.length:Int)==(j:Int))=true:=by rw[beq_iff_eq];omega
   go_wp2_with (go_at_call 91;refine(HS.out).mono ?_;rintro e w1 ⟨rfl,hb1⟩)
   go_ret;exact⟨by go_num,Below.seq hb hb1⟩
  .have hn:=HD.out.next hj he
   have hq:((s.length:Int)==(j:Int))=false:=by rw[beq_eq_false_iff_ne];omega
   clear he hlen;go_wp2_with (go_at_call 91;refine(HS.out).mono ?_;rintro e w1 ⟨rfl,hb1⟩)
   exact⟨⟨j+1,by omega,hn,by go_num,Below.seq hb hb1⟩,by simp[intOf];omega⟩
def KI:Nat->Nat->Nat->Nat
 | 0,_,d=>d
 | f+1,base,d=>if nd (base+d)=d then d else KI f base (d+1)
theorem Kw(base d0:Nat)(h:nN base d0):∀ f d,d<=d0->d0<=d+f->KI f base d=d0
 | 0,d,h1,h2=>by unfold KI;omega
 | f+1,d,h1,h2=>by
  unfold KI;by_cases he:nd (base+d)=d
  .rw[if_pos he];exact h.here h1 he
  .rw[if_neg he];exact Kw base d0 h f (d+1) (h.next h1 he) (by omega)
abbrev Pt:=List UInt8×List UInt8
def iN(p:Pt):Nat:=p.1.length+p.2.length+3
def jO(p:Pt):Nat:=iN p+KI 22 (iN p) 0
theorem vQ(p:Pt)(h:iN p+21<100000000000000000000):∃ d,d<=20/\nN (iN p) d/\jO p=iN p+d:=by
 obtain⟨d,h1,h2⟩:=Fu (iN p) h;exact⟨d,h1,h2,by unfold jO;rw[Kw (iN p) d h2 22 0 (by omega) (by omega)]⟩
abbrev Pr:=List UInt8×List UInt8
def aR(p:Pr):List Value:=[.string ⟨p.1.toArray⟩,.string ⟨p.2.toArray⟩]
theorem sw(p:Pr):(aR p).length=2:=rfl
def uD(w:World)(a:Option Addr)(n c:Nat)(l:List Pr):Prop:=wh w 2 a n c (l.flatMap aR)
theorem uD.len{w:World}{a:Option Addr}{n c:Nat}{l:List Pr}(h:uD w a n c l):l.length=n:=by
 have:=h.1;rw[Kh sw] at this;omega
theorem uD.cap{w:World}{a:Option Addr}{n c:Nat}{l:List Pr}(h:uD w a n c l):n<=c:=h.2.1
theorem uD.max{w:World}{a:Option Addr}{n c:Nat}{l:List Pr}(h:uD w a n c l):c<=9223372036854775807:=h.2.2.1
theorem Below.Sq{w w':World}{a:Option Addr}{n c:Nat}{l:List Pr}(k:Below w.heap.size w w')(h:uD w a n c l):uD w' a n c l:=(Below.keeps k).sl h
theorem Keeps.Sq{w w':World}{a:Option Addr}{n c:Nat}{l:List Pr}(k:Keeps w w')(h:uD w a n c l):uD w' a n c l:=k.sl h
theorem uD.at{w:World}{a:Option Addr}{n c:Nat}{l:List Pr}(h:uD w a n c l)(k:Nat)(hk:k<n):∃ b off,a=some ⟨b,off,none⟩/\w.cell? ⟨b,off+k*2,none⟩=some (.string ⟨(l.getD k ([],[])).1.toArray⟩)/\w.cell? ⟨b,off+k*2+1,none⟩=some (.string ⟨(l.getD k ([],[])).2.toArray⟩):=by
 have hl:=h.len;have hk':k<l.length:=by omega
 have e:l.getD k ([],[])=l[k]:=by simp[List.getD,kM hk']
 rw[e];have h0:=yx sw l k 0 hk' (by omega);have h1:=yx sw l k 1 hk' (by omega);simp only[aR,List.getElem?_cons_zero,List.getElem?_cons_succ,R4] at h0 h1;obtain⟨b,off,ha,hc0⟩:=h.2.2.2.1.at _ _ h0;obtain⟨b',off',ha',hc1⟩:=h.2.2.2.1.at _ _ h1;rw[ha] at ha';simp only[Ba,Addr.mk.injEq,and_true] at ha';obtain⟨rfl,rfl⟩:=ha';exact⟨b,off,ha,hc0,by rw[Zu];exact hc1⟩
theorem sK(l:List Pr):∀ u∈l.flatMap aR,u.oneCell'=true:=by
 intro u hu;obtain⟨p,_,hp⟩:=List.mem_flatMap.1 hu;simp only[aR,rD,xS,or_false] at hp;rcases hp with rfl|rfl <;> rfl
theorem EF:(qp0.info? 160).map (fun i=>(i.zero,i.size,i.bytes))=some (some (.agg #[.string ⟨#[]⟩,.string ⟨#[]⟩]),2,32):=by kernel_rfl
def ad6(w:World)(l:List Pr)(e:Ending)(w':World):Prop :=∃ a n c,e=.returned (.slice a n c)/\w'.ownsRow w.heap.size 160 2 (.slice a n c) n (l.flatMap aR)/\Below w.heap.size w w'
theorem mR{w:World}{base:Nat}{e:TypeId}{a:Option Addr}{n c:Nat}{l:List Pr}(h:w.ownsRow base e 2 (.slice a n c) n (l.flatMap aR)):uD w a n c l:=rP h
section
theorem RF(p:Pr)(w:World)(ht:lV w)(hk:p.1.length<=140737488351232)(hv:p.2.length<=140737488351232):Calls qp0 131 #[.agg #[.string ⟨p.1.toArray⟩,.string ⟨p.2.toArray⟩]] w fun e w'=>e=.returned (.int .i64 (jO p:Int))/\Below w.heap.size w w':=by
 obtain⟨d,h1,h2,h3⟩:=vQ p (by unfold iN;omega);rw[h3];exact V9 p.1 p.2 d w ht hk hv h2 h1
theorem Nz(p:Pr)(hk:p.1.length<=140737488351232)(hv:p.2.length<=140737488351232):jO p<=300000000000000:=by
 obtain⟨d,h1,h2,h3⟩:=vQ p (by unfold iN;omega);rw[h3];unfold iN;omega
section
variable {P:Program}{ops:Array Oper}{o:Oper}{a:Act}{w:World}{K:Act->World->Prop}{Q:Exit->Act->World->Prop}{E:Prop}
end
end
namespace Plain
def span(n:Int):Int:=if n<=0 then 0 else(n - 1) / 512+1
def pad(n:Int):Int:=if n<=0 then 0 else(-n)%512
end Plain
theorem KW(n:Int)(h1:n<9223372036854775808)(w:World):Calls qp0 117 #[.int .i64 n] w fun e w'=>e=.returned (.int .i64 (Plain.span n))/\w=w':=by
 by_cases h0:n<=0
 .have hs:Plain.span n=0:=by simp[Plain.span,h0]
  rw[hs];clear hs;go_enter func117,ntmps117;go_wp2
  go_ret;exact⟨rfl,rfl⟩
 .have hs:Plain.span n=(n - 1) / 512+1:=by simp[Plain.span,h0]
  rw[hs];clear hs;go_enter func117,ntmps117;go_wp2
  all_goals
   go_ret;exact⟨aax (by omega),rfl⟩
namespace Plain
def valid(sec nano:Int):Bool:=decide (0<=nano)&&decide (nano<1000000000)&&decide (-1099511627777<=sec)&&decide (sec<=1099511627776)&&!(decide (sec=-1099511627777)&&decide (nano=0))
end Plain
theorem TQ(s n:Int)(w:World):Calls qp0 54 #[.agg #[.int .i64 s,.int .i64 n]] w fun e w'=>e=.returned (.bool (Plain.valid s n))/\Below w.heap.size w w':=by
 generalize hr:Plain.valid s n=r;have HR:=ah hr;clear hr;go_enter func54,ntmps54;go_wp2
 all_goals
  go_ret;refine⟨yw ?_,(Below.refl _ _).alloc (aY _) _⟩;rw[<-HR.out,qbG]
  try simp only[beq_iff_eq,beq_eq_false_iff_ne,ne_eq] at *
  simp[Plain.valid]
  try omega
section
namespace Plain
def txt(lo:Int)(s:List UInt8):Bool:=!decide ((s.length:Int)<lo)&&!decide (4096<(s.length:Int))&&!decide (0<=Lib.indexByte s 0)
end Plain
namespace Plain
section
variable {k:Int}{T1 T2 T3 T4 T5 T6 r:Bool}{link:List UInt8}{mode uid gid:Int}{n:Nat}
variable {L O:Bool}
end
end Plain
end
end Go.Proofs.YtdbgldieilgnmaaGreatDoor
