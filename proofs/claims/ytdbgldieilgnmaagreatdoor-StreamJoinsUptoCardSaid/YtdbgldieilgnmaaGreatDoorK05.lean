/- K05 -/
import Derived.Test.YtdbgldieilgnmaaGreatDoorK04
import Derived.Lib.AppendZeros
import Derived.Laws.CopyOwn
import Derived.OneCell
import Derived.Maps.RangeWalk
import Derived.Lib.LazyBuf
import Derived.Lib.SpaceUEq
import Derived.StillTailTactics
import Derived.Laws.Cover1
set_option linter.all false
set_option maxHeartbeats 8000000
set_option maxRecDepth 100000
namespace Go.Proofs.YtdbgldieilgnmaaGreatDoor
open Tryz
open Go.Proofs.Tryz renaming prog → qp0
open ChangeShapes WideShapes ChangeAt RowKit
def gK(t:TypeId)(v:Nat):Value:=if v<=18446744073709551615 then .tuple #[.int .u64 (v:Int),.nilIface] else .tuple #[.int .u64 18446744073709551615,.iface t (.int .i64 1)]
theorem Df(bs:List UInt8)(hne:bs≠[])(hmax:bs.length<=140737488355328)(hall:bs.all eX=true)(w:World):Calls qp0 210 #[.string ⟨bs.toArray⟩,.int .i64 8,.int .i64 64] w fun e w'=>e=.returned (gK 268 (bK 0 bs))/\w'=Lib.bytesWorld w 5 ⟨bs.toArray⟩:=by
 have Zw:bs.isEmpty=false:=by simpa using hne
 have hcv:=Lib.run_convert_string_bytes (P:=qp0) w 9 22 5 ⟨bs.toArray⟩ (u:=.string) underlying9 underlying22 underlying5;have hB:∀ j,j<bs.length->(Lib.bytesWorld w 5 ⟨bs.toArray⟩).cell? ⟨w.heap.size,j,none⟩=some (.int .u8 (bs.getD j 0).toNat):=fun j hj=>Lib.bytesWorld_cell w 5 ⟨bs.toArray⟩ j (by simpa[ByteArray.size] using hj)
 obtain⟨W1,hW1⟩:∃ W1,W1=Lib.bytesWorld w 5 ⟨bs.toArray⟩:=⟨_,rfl⟩
 rw[<-hW1] at hcv hB ⊢;clear hW1;have hmv:IntKind.u64.wrap (IntKind.u64.wrap 18446744073709551616 - 1)=18446744073709551615:=by
  rw[IntKind.wrap_u64,IntKind.wrap_u64];decide
 have HB:=ah hB;have KA:=ah hall;clear hB hall;generalize hR:gK 268 (bK 0 bs)=R;have HR:=ah hR;clear hR;have ahD:IntKind.u64.wrap (18446744073709551615 / 8+1)=2305843009213693952:=by rw[IntKind.wrap_u64];decide
 go_enter func210,ntmps210;go_wp2
 go_loop [12,13,101] (fun vu vn vi=>∃ (k:Nat)(a:Int),vu=.bool false/\vn=.int .u64 a/\vi=.int .i64 k/\k<=bs.length/\Hid (a=(bK 0 (bs.take k):Nat)/\bK 0 (bs.take k)<18446744073709551616))
  (fun _ _ vi=>bs.length-(intOf vi).toNat)
 case atStart=>exact⟨0,0,rfl,rfl,rfl,by omega,ah (by rw[qct,kQ];decide)⟩
 case round =>
  obtain⟨k,a,rfl,rfl,rfl,hk,hh⟩:=hrel;obtain⟨ha,hacc⟩:=hh.out;clear hh;have a0:0<=a:=by omega
  have a1:a<18446744073709551616:=by omega
  by_cases hkn:k<bs.length
  .have hc:=HB.out k hkn;have hdig:=X6 bs k hkn KA.out;have hst:=KR bs k hkn;have hle:=Cw bs (k+1);generalize bs.getD k 0=c at hc hdig hst;have hc256:c.toNat<256:=c.toNat_lt;obtain⟨hd0,hd1⟩:=hdig;have e0:(48:Int)<=c.toNat:=by omega
   have e1:(c.toNat:Int)<=55:=by omega
   by_cases hcut:2305843009213693952<=a
   .have hf:gK 268 (bK 0 bs)=.tuple #[.int .u64 18446744073709551615,.iface 268 (.int .i64 1)]:=by
     unfold gK;rw[if_neg (by omega)]
    obtain rfl:=(HR.out.symm.trans hf);clear hf ha hacc hst hle;go_wp2
    go_ret2;exact⟨rfl,rfl⟩
   .have HN:Hid (a*8+((c.toNat:Int) - 48)=(bK 0 (bs.take (k+1)):Nat)/\bK 0 (bs.take (k+1))<18446744073709551616):=ah ⟨by omega,by omega⟩;have icut:a<2305843009213693952:=by omega
    have iov:a*8+((c.toNat:Int) - 48)<18446744073709551616:=by omega
    clear hcut ha hacc hst hle;go_wp2
    exact⟨⟨k+1,a*8+((c.toNat:Int) - 48),rfl,(by first|rfl|(congr 1;omega)),(by first|rfl|(congr 1;omega)),by omega,HN⟩,by simp[intOf];omega⟩
  .obtain rfl:k=bs.length:=by omega
   rw[qbA] at ha hacc;have hf:gK 268 (bK 0 bs)=.tuple #[.int .u64 a,.nilIface]:=by
    unfold gK;rw[if_pos (by omega),ha]
   obtain rfl:=(HR.out.symm.trans hf);clear hf ha hacc;go_wp2
   go_ret2;exact⟨rfl,rfl⟩
def mU(t:TypeId)(v:Nat):Value:=if v<=9223372036854775807 then .tuple #[.int .i64 (v:Int),.nilIface] else .tuple #[.int .i64 9223372036854775807,.iface t (.int .i64 1)]
theorem Fj(bs:List UInt8)(hne:bs≠[])(hmax:bs.length<=140737488355328)(hall:bs.all eX=true)(w:World):Calls qp0 181 #[.string ⟨bs.toArray⟩,.int .i64 8,.int .i64 64] w fun e w'=>e=.returned (mU 268 (bK 0 bs))/\Below w.heap.size w w':=by
 have Zw:bs.isEmpty=false:=by simpa using hne
 have c0:0<bs.length:=qbQ.2 hne;have hx:=oO bs 0 c0;have hd:=X6 bs 0 c0 hall;have hU:=Df bs hne hmax hall w;generalize bs.getD 0 0=g at hx hd;have h43:((g.toNat:Int)==43)=false:=by rw[beq_eq_false_iff_ne];omega
 have h45:((g.toNat:Int)==45)=false:=by rw[beq_eq_false_iff_ne];omega
 have hq1:∀ W,(binOp .neq 205 (.iface 268 (.int .i64 1)) (.iface 268 (.int .i64 1))).run qp0 W=.ok (.bool false) W:=fun W=>Lib.run_neq_iface_int W 1 1 underlying205 (by kernel_rfl) underlying268
 clear hd hne hall;generalize bK 0 bs=v at *
 by_cases h1:v<=9223372036854775807
 .have e1:gK 268 v=.tuple #[.int .u64 (v:Int),.nilIface]:=by unfold gK;rw[if_pos (by omega)]
  have e2:mU 268 v=.tuple #[.int .i64 (v:Int),.nilIface]:=by unfold mU;rw[if_pos h1]
  rw[e1] at hU;rw[e2];obtain⟨a,ha⟩:∃ a:Int,a=(v:Int):=⟨_,rfl⟩
  rw[<-ha] at hU ⊢;have HU:=ah hU;have i1:a<9223372036854775808:=by omega
  have i0:0<=a:=by omega
  clear e1 e2 hU h1 ha;go_enter func181,ntmps181;go_wp2_with (go_at_call 210;refine(HU.out).mono ?_;rintro e w1 ⟨rfl,hw1⟩;have HW:=ah hw1;clear hw1)
  go_ret2;exact⟨rfl,by rw[HW.out];exact Lib.bytesWorld_below _ _ _⟩
 .have e2:mU 268 v=.tuple #[.int .i64 9223372036854775807,.iface 268 (.int .i64 1)]:=by unfold mU;rw[if_neg h1]
  rw[e2];by_cases h2:v<=18446744073709551615
  .have e1:gK 268 v=.tuple #[.int .u64 (v:Int),.nilIface]:=by unfold gK;rw[if_pos h2]
   rw[e1] at hU;obtain⟨a,ha⟩:∃ a:Int,a=(v:Int):=⟨_,rfl⟩
   rw[<-ha] at hU;have HU:=ah hU;have i1:9223372036854775808<=a:=by omega
   have i2:a<=18446744073709551615:=by omega
   clear e1 e2 hU h1 h2 ha;go_enter func181,ntmps181;go_wp2_with (go_at_call 210;refine(HU.out).mono ?_;rintro e w1 ⟨rfl,hw1⟩;have HW:=ah hw1;clear hw1)
   go_ret2;exact⟨rfl,by rw[HW.out];exact Lib.bytesWorld_below _ _ _⟩
  .have e1:gK 268 v=.tuple #[.int .u64 18446744073709551615,.iface 268 (.int .i64 1)]:=by unfold gK;rw[if_neg h2]
   rw[e1] at hU;have HU:=ah hU;clear e1 e2 hU h1 h2;go_enter func181,ntmps181;go_wp2_with (go_at_call 210;refine(HU.out).mono ?_;rintro e w1 ⟨rfl,hw1⟩;have HW:=ah hw1;clear hw1)
   go_ret2;exact⟨rfl,by rw[HW.out];exact Lib.bytesWorld_below _ _ _⟩
theorem A8(bs:List UInt8)(hne:bs≠[])(hmax:bs.length<=140737488355328)(hall:bs.all eX=true)(w:World)(ev:Value)(hE:eO w ev):Calls qp0 143 #[.string ⟨bs.toArray⟩,.int .i64 8,.int .i64 64] w fun e w'=>∃ (x:Int)(er:Value),e=.returned (.tuple #[.int .i64 x,er])/\Below w.heap.size w w' /\
   (bK 0 bs<=9223372036854775807->x=bK 0 bs/\er=.nilIface)/\(¬ bK 0 bs<=9223372036854775807->∃ t p,er=.iface t p):=by
 have hI:=Fj bs hne hmax hall w;generalize bK 0 bs=v at *
 by_cases h1:v<=9223372036854775807
 .have e2:mU 268 v=.tuple #[.int .i64 (v:Int),.nilIface]:=by unfold mU;rw[if_pos h1]
  rw[e2] at hI;have HI:=ah hI;clear hI e2;go_enter func143,ntmps143;go_wp2_with (go_at_call 181;refine(HI.out).mono ?_;rintro e w1 ⟨rfl,hb1⟩)
  go_ret2;exact⟨_,_,rfl,hb1,fun _=>⟨rfl,rfl⟩,fun h=>absurd h1 h⟩
 .have e2:mU 268 v=.tuple #[.int .i64 9223372036854775807,.iface 268 (.int .i64 1)]:=by unfold mU;rw[if_neg h1]
  rw[e2] at hI;have HI:=ah hI;have HE:=ah hE;have HH:=ah h1;clear hI e2 h1 hE;go_enter func143,ntmps143;go_wp2_with (first|(go_at_call 181;refine(HI.out).mono ?_;rintro e w1 ⟨rfl,hb1⟩;have HB1:=ah hb1;clear hb1)|(go_at_call 182;refine(Tryz.strconv_toError_range _ _ 8 64 ev _ (by simp[ByteArray.size];omega) (by exact(HE.out.below HB1.out).1) (Or.inr HE.out.2)).mono ?_;rintro e w2 ⟨N,rfl,hN1,hN2,hb2⟩;have HB2:=ah hb2;clear hb2 hN1 hN2))
  go_ret2;exact⟨_,_,rfl,Below.seq HB1.out HB2.out,fun h=>absurd h HH.out,fun _=>⟨_,_,rfl⟩⟩
theorem Yn(l:List UInt8)(k:Nat)(h:k<l.length)(ih:(l.take k).all eX=true)(hd:48<=(l.getD k 0).toNat/\(l.getD k 0).toNat<=55):(l.take (k+1)).all eX=true:=by
 have hg:l.getD k 0=l[k]:=by simp[List.getD,kM h]
 have h1:eX (l.getD k 0)=true:=(kN _).2 hd;rw[Nh h,qcp,ih,<-hg,JJ,h1];rfl
theorem ac3(l:List UInt8)(k:Nat)(h:k<l.length)(hd:¬ (48<=(l.getD k 0).toNat/\(l.getD k 0).toNat<=55)):l.all eX=false:=by
 have hg:l.getD k 0=l[k]:=by simp[List.getD,kM h]
 cases ha:l.all eX with
 | false=>rfl
 | true =>
  have:=(Ej.1 ha) l[k] (VE h);rw[kN,<-hg] at this;exact absurd this hd
theorem FD{p q:UInt8->Bool}(l:List UInt8)(h:l.all p=true):(l.dropWhile q).all p=true:=by
 rw[Ej] at h ⊢;exact fun x hx=>h x ((qbC q).subset hx)
theorem Plain.Uj(l:List UInt8)(h:(dM (l.dropWhile (·==32))).all eX=false):Plain.octal l=(0,10):=by
 have hg:(dL (l.dropWhile (·==32))).all gX=false:=by
  cases hg:(dL (l.dropWhile (·==32))).all gX with
  | false=>rfl
  | true=>rw[FU _ hg,Ap] at h;cases h
 unfold Plain.octal;simp only[hg];rfl
theorem Plain.PE(l:List UInt8)(h:(dM (l.dropWhile (·==32))).all eX=true):Plain.octal l=if bK 0 (dM (l.dropWhile (·==32)))<=9223372036854775807 then(((bK 0 (dM (l.dropWhile (·==32))):Nat):Int),0) else(0,11):=by
 have hg:(dL (l.dropWhile (·==32))).all gX=true:=by
  cases hg:(dL (l.dropWhile (·==32))).all gX with
  | true=>rfl
  | false=>rw[XJ _ hg] at h;cases h
 rw[FU _ hg];unfold Plain.octal;simp only[hg,if_true]
theorem Sm(l:List UInt8):(dM l).length<=l.length:=by
 unfold dM;rw[List.length_reverse];have:=(qbC (l:=l.reverse) gX).length_le;simpa using this
theorem Uo(a:Option Addr)(n c:Nat)(l:List UInt8)(w:World)(ev:Value)(h:Bs w a n c l)(hc:n<=140737488355328)(hE:eO w ev):Calls qp0 110 #[.slice a n c] w fun e w'=>e=.returned (nU (Plain.octal l))/\Below w.heap.size w w':=by
 have hl:=h.len;have hcap:=h.cap;have hbad:=Plain.Uj l;have hgood:=Plain.PE l;have ae4:(l.dropWhile (·==32)).length<=l.length:=(qbC _).length_le;have HTL:Hid (∀ w,Calls qp0 142 #[.string ⟨l.toArray⟩,.string ⟨#[32]⟩] w fun e w'=>e=.returned (.string ⟨(l.dropWhile (·==32)).toArray⟩)/\w'=w):=fun w=>Tryz.strings_TrimLeft_one ⟨l.toArray⟩ 32 (by decide) w
 generalize l.dropWhile (·==32)=m at *
 have af8:=Sm m;have HTR:Hid (∀ w,Calls qp0 129 #[.string ⟨m.toArray⟩,.string ⟨#[32,0]⟩] w fun e w'=>e=.returned (.string ⟨(dM m).toArray⟩)/\Below w.heap.size w w'):=fun w=>JR m w (by omega)
 generalize dM m=p at *
 have HTZ:Hid (∀ w,Calls qp0 142 #[.string ⟨p.toArray⟩,.string ⟨#[48]⟩] w fun e w'=>e=.returned (.string ⟨(p.dropWhile (·==48)).toArray⟩)/\w'=w):=fun w=>Tryz.strings_TrimLeft_one ⟨p.toArray⟩ 48 (by decide) w
 have hp:p.length<=140737488355328:=by omega
 generalize hr:Plain.octal l=r at *
 have HBAD:=ah hbad;have afm:=ah hgood;have HE:=ah hE;clear hbad hgood hE hr af8 ae4;have hu:=ah underlying5;go_enter func110,ntmps110;go_wp2_with (first|(with_reducible refine aT rfl _ _ _ rfl underlying22 hu.out underlying9 rfl h ?_)|(go_at_call 142;(with_reducible refine(HTL.out _).mono ?_);rintro e w1 ⟨rfl,hw⟩;obtain rfl:=hw.symm)|(go_at_call 129;(with_reducible refine(HTR.out _).mono ?_);rintro e w2 ⟨rfl,hb2⟩))
 go_loop [6] (fun i=>∃ k:Nat,k<=p.length/\i=.int .i64 k/\Hid ((p.take k).all eX=true)) (fun i=>p.length-(intOf i).toNat)
 case atStart=>exact⟨0,by omega,rfl,(rfl:(p.take 0).all eX=true)⟩
 case round =>
  obtain⟨k,hk,rfl,hz⟩:=hrel;by_cases hlt:k<p.length
  .have hkn:(k:Int)<(p.length:Int):=by omega
   have hx:=oO p k hlt;have hstep:=Yn p k hlt hz.out;have hno:=ac3 p k hlt;generalize p.getD k 0=g at hx hstep hno;have HS:=ah hstep;have VZ:=ah hno;clear hstep hno;by_cases d1:(g.toNat:Int)<48
   .obtain rfl:=HBAD.out (VZ.out (by omega));go_wp2
    go_ret2;exact⟨rfl,hb2⟩
   .by_cases d2:(55:Int)<g.toNat
    .obtain rfl:=HBAD.out (VZ.out (by omega));go_wp2
     go_ret2;exact⟨rfl,hb2⟩
    .have hs:=ah (HS.out (by omega));go_wp2
     go_round
     case rel=>exact⟨k+1,by omega,by go_num,hs⟩
     case measure=>simp[intOf];omega
  .obtain rfl:k=p.length:=by omega
   have hall:p.all eX=true:=by have:=hz.out;rwa [qbA] at this
   have hrr:=afm.out hall;have hz0:=wM p;have X5:=FD (q:=(·==48)) p hall;have aff:(p.dropWhile (·==48)).length<=p.length:=(qbC _).length_le;generalize p.dropWhile (·==48)=q at *
   by_cases hq:q=[]
   .subst hq;rw[kQ] at hz0;rw[<-hz0,if_pos (by decide)] at hrr;obtain rfl:=hrr;clear hall X5 aff hz0 hz;go_wp2_with (go_at_call 142;(with_reducible refine(HTZ.out _).mono ?_);rintro e w3 ⟨rfl,hw⟩;obtain rfl:=hw.symm)
    go_ret2;exact⟨rfl,hb2⟩
   .have Zw:q.isEmpty=false:=by simpa using hq
    have HPI:=ah (fun w hw=>A8 q hq (by omega) X5 w ev hw);rw[<-hz0] at hrr;have HRR:=ah hrr;clear hall X5 hz0 hz hrr hq;generalize bK 0 q=v at *
    by_cases hv:v<=9223372036854775807
    .have hf:=HRR.out;rw[if_pos hv] at hf;obtain rfl:=hf;have HV:=ah hv;clear hv;go_wp2_with (first|(go_at_call 142;(with_reducible refine(HTZ.out _).mono ?_);rintro e w3 ⟨rfl,hw⟩;obtain rfl:=hw.symm)|(go_at_call 143;refine(HPI.out _ (by exact HE.out.below hb2)).mono ?_;rintro e w4 ⟨x,er,rfl,hb4,hx1,_⟩;obtain⟨rfl,rfl⟩:=hx1 HV.out;clear hx1))
     go_ret2;exact⟨rfl,Below.seq hb2 hb4⟩
    .have hf:=HRR.out;rw[if_neg hv] at hf;obtain rfl:=hf;have HV:=ah hv;clear hv;go_wp2_with (first|(go_at_call 142;(with_reducible refine(HTZ.out _).mono ?_);rintro e w3 ⟨rfl,hw⟩;obtain rfl:=hw.symm)|(go_at_call 143;refine(HPI.out _ (by exact HE.out.below hb2)).mono ?_;rintro e w4 ⟨x,er,rfl,hb4,_,hx2⟩;obtain⟨te,pe,rfl⟩:=hx2 HV.out;clear hx2))
     go_ret2;exact⟨rfl,Below.seq hb2 hb4⟩
theorem H8{w:World}{a:Option Addr}{n c:Nat}{l:List UInt8}(h:Bs w a n c l):(n=0/\Plain.number l=Plain.octal l)\/(∃ b off,∃ G:Int,0<n/\a=some ⟨b,off,none⟩/\w.cell? ⟨b,off,none⟩=some (.int .u8 G)/\((128<=G/\Plain.number l=Plain.mW l)\/(G<128/\Plain.number l=Plain.octal l))):=by
 have hl:=h.len;by_cases h0:n=0
 .exact .inl ⟨h0,by unfold Plain.number;rw[if_neg (by omega)]⟩
 .right
  obtain⟨b,off,ha,hc⟩:=h.at 0 (by omega);rw[R4] at hc;refine⟨b,off,_,by omega,ha,hc,?_⟩;by_cases hg:128<=(l.getD 0 0).toNat
  .exact .inl ⟨by omega,by unfold Plain.number;rw[if_pos ⟨by omega,hg⟩]⟩
  .exact .inr ⟨by omega,by unfold Plain.number;rw[if_neg (fun h=>hg h.2)]⟩
theorem qM(a:Option Addr)(n c:Nat)(l:List UInt8)(w:World)(ev:Value)(h:Bs w a n c l)(hc:n<=140737488355328)(hE:eO w ev):Calls qp0 72 #[.slice a n c] w fun e w'=>e=.returned (nU (Plain.number l))/\Below w.heap.size w w':=by
 have hB:=MF a n c l w h;have hO:=Uo a n c l w ev h hc hE;have hq:=H8 h;have HB:=ah hB;have HO:=ah hO;clear hB hO h hE;rcases hq with⟨rfl,hq⟩|⟨b,off,G,hn,rfl,hcell,⟨hG,hq⟩|⟨hG,hq⟩⟩
 .rw[hq];clear hq;go_enter func72,ntmps72;go_wp2_with (go_at_call 110;(with_reducible refine(HO.out).mono ?_);rintro e w1 ⟨rfl,hb⟩;unfold nU)
  go_ret2;exact⟨rfl,hb⟩
 .rw[hq];clear hq;have hn1:(0:Int)<n:=by omega
  go_enter func72,ntmps72;go_wp2_with (go_at_call 109;(with_reducible refine(HB.out).mono ?_);rintro e w1 ⟨rfl,hw⟩;obtain rfl:=hw;unfold nU)
  go_ret2;exact⟨rfl,Below.refl _ _⟩
 .rw[hq];clear hq;have hn1:(0:Int)<n:=by omega
  have hG2:¬ 128<=G:=by omega
  go_enter func72,ntmps72;go_wp2_with (go_at_call 110;(with_reducible refine(HO.out).mono ?_);rintro e w1 ⟨rfl,hb⟩;unfold nU)
  go_ret2;exact⟨rfl,hb⟩
section
def EZ(w:World):Prop:=w.cell? ⟨7,7,none⟩=some (.int .u8 3)
theorem EZ.below{w w':World}(h:EZ w)(k:Below w.heap.size w w'):EZ w':=Below.keeps k _ _ h
theorem adT(w:World)(h:EZ w):Calls qp0 253 #[.int .u64 8] w fun e w'=>e=.returned (.int .i64 3)/\w=w':=by
 unfold EZ at h;have h1:IntKind.u64.wrap (bits .and .u64 8 (IntKind.u64.wrap (-8))*285870213051353865) / 288230376151711744=7:=by decide +kernel
 go_enter func253,ntmps253;go_wp2
 go_ret;exact⟨rfl,rfl⟩
theorem agI(w:World)(h:EZ w):Calls qp0 235 #[.int .u64 8] w fun e w'=>e=.returned (.int .i64 3)/\w=w':=by
 have H:=ah (adT w h);clear h;go_enter func235,ntmps235;go_wp2_with (go_at_call 253;(with_reducible refine(H.out).mono ?_);rintro e w1 ⟨rfl,hw⟩;obtain rfl:=hw)
 go_ret;exact⟨rfl,rfl⟩
theorem acF(w:World):Calls qp0 234 #[.int .i64 8] w fun e w'=>e=.returned (.bool true)/\w=w':=by
 have h1:bits .and .i64 8 7=0:=by decide +kernel
 go_enter func234,ntmps234;go_wp2
 go_ret;exact⟨rfl,rfl⟩
section
variable {P:Program}{ops:Array Oper}{rest:List Oper}{o:Oper}{a:Act}{w:World}{Q:Exit->Act->World->Prop}
theorem pW(hgd:o.guard=none)(t:TypeId)(y x:Operand)(ho:o.op=.index t y x)(ht:P.underlying t=some .string){s:ByteArray}(hy:a.eval y=.string s){k:IntKind}(d:Nat)(hx:a.eval x=.int k (d:Int))(b:UInt8)(hb:s.data.toList[d]? = some b)(h:wpList P ops Q rest (a.put o.dst (.int .u8 (b.toNat:Int))) w):wpList P ops Q (o::rest) a w:=by
 refine bI hgd _ _ ?_ h;have hr:=run_index_string (P:=P) (w:=w) t s k (d:Int) ht;obtain⟨hlt,hv⟩:=qbl.1 hb;have hsz:d<s.size:=by rw[U5] at hlt;exact hlt
 have hgt:s[d]'hsz=b:=by rw[<-hv,Array.getElem_toList];rfl
 have hx2:(Instr.index t (.string s) (.int k (d:Int))).run P w=.ok (.int .u8 (b.toNat:Int)) w:=by
  rw[hr,dif_pos ⟨by omega,by omega⟩];have:s[(d:Int).toNat]'(by omega)=b:=hgt;rw[this]
 simp[execOp,ho,hy,hx,hx2,Result.andThen]
end
def afE:ByteArray:=⟨#[48,49,50,51,52,53,54,55,56,57,97,98,99,100,101,102,103,104,105,106,107,108,109,110,111,112,113,114,115,116,117,118,119,120,121,122]⟩
theorem aaF(d:Nat)(h:d<8):afE.data.toList[d]? = some (UInt8.ofNat (48+d)):=by
 have key:∀ x:Fin 8,afE.data.toList[x.1]? = some (UInt8.ofNat (48+x.1)):=by decide
 exact key ⟨d,h⟩
def z65:List UInt8:=List.replicate 65 0
theorem adh:(qp0.info? 291).bind (·.zero)=some (.agg (aL (z65))):=by kernel_rfl
theorem Yt(n:Nat)(h:n<18446744073709551616):bits .and .u64 (n:Int) 7=((n%8:Nat):Int):=by
 have e:bits .and .u64 (n:Int) 7=((n &&& 7:Nat):Int):=u64_and_nat n 7 h (by decide);rw[e,show(7:Nat)=2^3 - 1 by rfl,Nat.and_two_pow_sub_one_eq_mod]
theorem WH(v:Nat)(h:v<=9223372036854775807):qL v<=21:=Ww v 21 (by decide) (by have:(8:Nat)^21=9223372036854775808:=rfl;omega)
structure qW(w:World)(v k:Nat)(wr:World):Prop where
 bJ:Below w.heap.size w wr
 row:wr.heap[w.heap.size]? = some (.cells (aL (jM 0 (iQ v) 65 k [])) 291 (0,0))
theorem qW.start(w:World)(v:Nat):qW w v 0 (w.alloc (.cells (aL (z65)) 291)):=by
 refine⟨(Below.refl _ _).alloc (aY _) _,?_⟩;rw[heap_alloc_new,Jf,Qq];rfl
theorem qW.step{w wr:World}{v k:Nat}(h:qW w v k wr)(hk:k<65)(b:UInt8)(hb:b=iQ v k):qW w v (k+1) (wr.setCell ⟨w.heap.size,64-k,none⟩ (.int .u8 (b.toNat:Int))):=by
 subst hb;refine⟨h.bJ.setCell (by simp) _,?_⟩;rw[heap_setCell_same _ _ _ _ _ _ h.row,show(Value.int .u8 ((iQ v k).toNat:Int))=jJ (iQ v k) from rfl,wQ,show 64-k=65 - 1-k by omega,K5 0 (iQ v) 65 k [] hk]
theorem qW.cell{w wr:World}{v k:Nat}(h:qW w v k wr)(hk:k<65)(j:Nat)(hj:j<65):∃ x,wr.cell? ⟨w.heap.size,j,none⟩=some x :=⟨_,by rw[cell_of_row _ _ _ _ _ _ h.row,tF _ _ (by rw[Me _ _ _ _ _ (by omega)];exact hj)]⟩
theorem qW.bs{w wr:World}{v k:Nat}(h:qW w v k wr)(hk:k<=65):Bs wr (some ⟨w.heap.size,65-k,none⟩) k k (bf v k):=by
 refine⟨by rw[V7];unfold bf;rw[cu];omega,aY _,by unfold maxLen;omega,fun j x hj=>⟨_,rfl,?_⟩,fun h=>by cases h⟩;rw[Addr.add_lit,cell_of_row _ _ _ _ _ _ h.row];have hd:=Js 0 (iQ v) 65 k [];rw[Qq] at hd;have e:(bf v k)=(jM 0 (iQ v) 65 k []).drop (65-k):=hd.symm;rw[e,qce,qbE] at hj;simpa[aL] using hj
theorem IE(v:Nat)(hv:v<=9223372036854775807)(w:World)(hT:EZ w):Calls qp0 203 #[.slice none 0 0,.int .u64 v,.int .i64 8,.bool false,.bool false] w fun e w'=>e=.returned (.tuple #[.slice none 0 0,.string ⟨(bf v (qL v)).toArray⟩])/\Below w.heap.size w w':=by
 have hn:=WH v hv;have HT:=ah hT;have HZ:=ah adh;clear hT;go_enter func203,ntmps203;go_wp2_with (first|(with_reducible refine bV rfl _ rfl (aL (z65)) HZ.out ?_)|(go_at_call 234;(with_reducible refine(acF _).mono ?_);rintro e w1 ⟨rfl,hw⟩;obtain rfl:=hw)|(go_at_call 235;(refine(agI _ (by exact HT.out.below (qW.start w v).bJ)).mono ?_);rintro e w1 ⟨rfl,hw⟩;obtain rfl:=hw))
 have hS:=qW.start w v;have HTW:=ah (HT.out.below hS.bJ);go_loopw [1,13] (fun u i wr=>∃ k:Nat,k+qL (v / 8^k)=qL v/\u=.int .u64 ((v / 8^k:Nat):Int)/\i=.int .i64 (65-(k:Int))/\qW w v k wr) (fun u _ _=>(intOf u).toNat)
 case atStart=>exact⟨0,by rw[Nat.pow_zero,Nat.div_one];omega,by rw[Nat.pow_zero,Nat.div_one],by go_num,hS⟩
 case round =>
  obtain⟨k,hk,rfl,rfl,hD⟩:=hrel;have hdp:=aap (v / 8^k);have ahL:k<21:=by omega
  have hrec:8<=v / 8^k->qL (v / 8^k)=qL (v / 8^(k+1))+1:=fun h=>by
   rw[qbN,<-Nat.div_div_eq_div_mul]
   conv=>lhs;unfold qL
   rw[if_neg (by omega)]
  have hnext:v / 8^k / 8=v / 8^(k+1):=by rw[qbN,<-Nat.div_div_eq_div_mul]
  have hle:v / 8^k<=v:=Nat.div_le_self _ _;have hdig:iQ v k=UInt8.ofNat (48+v / 8^k%8):=rfl;have hlast:v / 8^k<8->qL (v / 8^k)=1:=fun h=>by unfold qL;rw[if_pos h]
  generalize hU:v / 8^(k+1)=U' at *
  generalize v / 8^k=U at *
  obtain⟨j,hj⟩:∃ j:Nat,(65:Int)-(k:Int) - 1=(j:Int):=⟨64-k,by omega⟩
  have hjk:j=64-k:=by omega
  have ahU:(j:Int)<65:=by omega
  obtain⟨x0,hx0⟩:=hD.cell (by omega) j (by omega);have hfz:=frozen_of_row _ _ j _ _ hD.row;have hb:=aaF (U%8) (qcz _ (by decide));have hand:=Yt U (by omega);have hm8:U<8->U%8=U:=fun h=>Nat.mod_eq_of_lt h
  generalize hB:UInt8.ofNat (48+U%8)=B at hb hdig;have hstep:=hD.step (by omega) B hdig.symm;rw[<-hjk] at hstep;have HBY:=ah hb;have WJ:=ah hstep;have HN:=ah hnext;have agi:=ah hrec;have afI:=ah hlast;have HK:=ah hk;have HJK:=ah hjk;have HM8:=ah hm8;have HU:=ah hU;clear hb hstep hnext hrec hlast hk hjk hdig hB hm8 hU;by_cases h8:8<=U
  .have h8i:(8:Int)<=(U:Int):=by omega
   go_wp2_with (refine pW rfl 9 _ _ rfl underlying9 rfl (U%8) rfl B HBY.out ?_)
   exact⟨⟨k+1,by have:=agi.out h8;have:=HK.out;rw[HU.out];omega,by rw[HU.out,<-HN.out];go_num,by go_num,WJ.out⟩,by simp[intOf];omega⟩
  .have h8i:¬ (8:Int)<=(U:Int):=by omega
   have h8j:(U:Int)<8:=by omega
   have hidx:=HM8.out (by omega);have hb2:=HBY.out;rw[hidx] at hb2;have ahl:=ah hb2;clear hb2 hidx hand;have hk1:k+1=qL v:=by have:=afI.out (by omega);have:=HK.out;omega
   have hbs:Bs (wr.setCell ⟨w.heap.size,j,none⟩ (.int .u8 (B.toNat:Int))) (some ⟨w.heap.size,j,none⟩) (65-j) (65-j) (bf v (qL v)):=by
    have:=WJ.out.bs (by omega);rw[<-hk1];have e1:65-(k+1)=j:=by have:=HJK.out;omega
    have e2:65-j=k+1:=by omega
    rw[e1] at this;rw[e2];exact this
   have R5:=ah hbs;have hbel:=WJ.out.bJ;clear hbs hk1;have hj2:j<=65:=by omega
   have hj3:j<65:=by omega
   go_wp2_with (first|(refine pW rfl 9 _ _ rfl underlying9 rfl U rfl B ahl.out ?_)|(with_reducible first|refine bA rfl _ _ _ _ rfl underlying291 (by kernel_rfl) w.heap.size rfl j 65 .i64 .i64 rfl rfl hj2 (by decide) hj3 ?_|refine aT rfl _ _ _ rfl underlying22 underlying5 underlying9 rfl R5.out ?_))
   go_ret2;exact⟨rfl,hbel⟩
theorem zU(v:Nat)(hv:v<=9223372036854775807)(w:World)(hT:EZ w):Calls qp0 140 #[.int .i64 v,.int .i64 8] w fun e w'=>e=.returned (.string ⟨(bf v (qL v)).toArray⟩)/\Below w.heap.size w w':=by
 have HF:Hid (Calls qp0 171 #[.int .i64 v,.int .i64 8] w fun e w'=>e=.returned (.string ⟨(bf v (qL v)).toArray⟩)/\Below w.heap.size w w'):=by
  have H:=ah (IE v hv w hT);show Calls _ _ _ _ _;have hn:¬ (v:Int)<0:=by omega
  clear hT;go_enter func171,ntmps171;go_wp2_with (go_at_call 203;(with_reducible refine(H.out).mono ?_);rintro e w1 ⟨rfl,hb⟩)
  go_ret;exact⟨rfl,hb⟩
 clear hT;go_enter func140,ntmps140;go_wp2_with (go_at_call 171;(with_reducible refine(HF.out).mono ?_);rintro e w1 ⟨rfl,hb⟩)
 go_ret;exact⟨rfl,hb⟩
end
section
def acr(w:World)(g c:Nat):Prop:=∀ k,k<c->(w.cell? ⟨g,k,none⟩).isSome=true/\w.frozen? ⟨g,k,none⟩=false
def Free(w:World)(B:Nat)(a:Option Addr)(n c:Nat):Prop:=n<=c/\c<=maxLen/\((a=none/\c=0)\/∃ g,a=some ⟨g,0,none⟩/\B<=g/\g<w.heap.size/\acr w g c)
theorem Free.base{w:World}{B B':Nat}{a:Option Addr}{n c:Nat}(h:Free w B a n c)(hb:B'<=B):Free w B' a n c:=by
 obtain⟨h1,h2,h3⟩:=h;refine⟨h1,h2,?_⟩;rcases h3 with h3|⟨g,ha,hB,r⟩
 .exact .inl h3
 .exact .inr ⟨g,ha,by omega,r⟩
theorem Free.nil(w:World)(B:Nat):Free w B none 0 0:=⟨aY _,by unfold maxLen;omega,.inl ⟨rfl,rfl⟩⟩
section
variable {P:Program}
end
end
section
def Qb(w:World)(r:List UInt8×Int)(e:Ending)(w':World):Prop :=∃ a n c,e=.returned (.tuple #[.slice a n c,.int .i64 r.2])/\Bs w' a n c r.1/\Below w.heap.size w w'
theorem adR(w:World):Bs w none 0 0 []:=⟨rfl,aY _,by unfold maxLen;omega,fun j v hj=>by simp at hj,fun _=>⟨rfl,rfl⟩⟩
def mI(w:World)(r:List UInt8×Int)(e:Ending)(w':World):Prop :=∃ a n c,e=.returned (.tuple #[.slice a n c,.int .i64 r.2])/\Bs w' a n c r.1/\Below w.heap.size w w'/\Free w' w.heap.size a n c
theorem mI.res{w w':World}{r:List UInt8×Int}{e:Ending}(h:mI w r e w'):Qb w r e w':=by
 obtain⟨a,n,c,h1,h2,h3,_⟩:=h;exact⟨a,n,c,h1,h2,h3⟩
theorem mI.nil{w w':World}(k:Int)(h:Below w.heap.size w w'):mI w ([],k) (.returned (.tuple #[.slice none 0 0,.int .i64 k])) w':=⟨none,0,0,rfl,adR _,h,Free.nil _ _⟩
theorem AB(w:World)(e:TypeId)(l:List UInt8)(h:l.length<=140737488355328):Free (Lib.bytesWorld w e ⟨l.toArray⟩) w.heap.size (some ⟨w.heap.size,0,none⟩) l.length (grownCap w l.length 0 e):=by
 have hge:=grownCap_ge w l.length 0 e;have hsz:(Lib.bytesCells w e ⟨l.toArray⟩).size=grownCap w l.length 0 e:=by
  simp[Lib.bytesCells,ByteArray.size];omega
 have hnew:=Lib.bytesWorld_at_new w e ⟨l.toArray⟩;refine⟨hge,grownCap_le_maxLen w _ 0 e (by unfold maxLen;omega),.inr ⟨_,rfl,aY _,by rw[Lib.bytesWorld_size];omega,fun k hk=>⟨?_,?_⟩⟩⟩
 .rw[cell_of_row _ _ _ _ _ _ hnew];have:k<(Lib.bytesCells w e ⟨l.toArray⟩).size:=by omega
  simp[this]
 .have hlt:k<(Lib.bytesCells w e ⟨l.toArray⟩).size:=by omega
  simp[World.frozen?,hnew];omega
section
variable {P:Program}{ops:Array Oper}{rest:List Oper}{o:Oper}{a:Act}{w:World}{Q:Exit->Act->World->Prop}
theorem yM(hgd:o.guard=none)(src dst:TypeId)(x:Operand)(ho:o.op=.convert src dst x){e:TypeId}(hs:P.underlying src=some .string)(hd:P.underlying dst=some (.slice e))(he:P.underlying e=some (.int .u8)){l:List UInt8}(hx:a.eval x=.string ⟨l.toArray⟩)(hl:l.length<=140737488355328)(h:∀ a' c' w',Bs w' a' l.length c' l->Below w.heap.size w w'->Free w' w.heap.size a' l.length c'->wpList P ops Q rest (a.put o.dst (.slice a' l.length c')) w'):wpList P ops Q (o::rest) a w:=by
 have hr:=Lib.run_convert_string_bytes (P:=P) w src dst e ⟨l.toArray⟩ hs hd he;refine bI hgd _ _ ?_ (h _ _ _ (FC w e l hl) (bytesWorld_below w e _) (AB w e l hl));simp[execOp,ho,hx,hr,Result.andThen,ByteArray.size]
end
theorem Ma(c:Nat)(hc:c<=64)(w:World):Calls qp0 141 #[.string ⟨#[48]⟩,.int .i64 c] w fun e w'=>e=.returned (.string ⟨(List.replicate c (48:UInt8)).toArray⟩)/\Below w.heap.size w w':=by
 by_cases h0:c=0
 .subst h0;exact(Tryz.strings_Repeat_zero ⟨#[48]⟩ w).mono fun e w' ⟨he,hw⟩=>⟨he,by rw[hw];exact Below.refl _ _⟩
 .by_cases h1:c=1
  .subst h1;exact(Tryz.strings_Repeat_one ⟨#[48]⟩ w).mono fun e w' ⟨he,hw⟩=>⟨he,by rw[hw];exact Below.refl _ _⟩
  .refine(Tryz.strings_Repeat_main ⟨#[48]⟩ c w (by omega) (by omega) (by show 1*c<=_;omega) (by decide)).mono fun e w' ⟨he,hw⟩=>⟨?_,hw⟩
   have:Lib.repeatL [48] c=List.replicate c 48:=by
    have:=Lib.repeatL_replicate 48 1 c
    rwa [qbK] at this
   rw[he,<-this]
theorem Q8(x y:List UInt8):(⟨x.toArray⟩:ByteArray)++⟨y.toArray⟩=⟨(x++y).toArray⟩:=by
 apply qb2;simp
theorem Kz(v n:Nat)(hn:qL v<=n):List.replicate (n-qL v) 48++bf v (qL v)=bf v n:=by
 have:=BG v (qL v) (KL v) (n-qL v);rw[<-this,show qL v+(n-qL v)=n by omega]
theorem uX(v n:Int)(w:World)(hT:EZ w)(v0:-9223372036854775808<=v)(v1:v<=9223372036854775807)(n0:-9223372036854775808<=n)(n1:n<=9223372036854775807):Calls qp0 107 #[.int .i64 v,.int .i64 n] w (mI w (Plain.fA v n)):=by
 rcases sJ v n with⟨h,e⟩|⟨h1,h2,h3,e⟩|⟨h1,h2,h3,h4,e⟩
 .rw[e];clear e;rcases h with h|h
  all_goals
   go_enter func107,ntmps107;go_wp2
   all_goals
    go_ret2;exact mI.nil _ (Below.refl _ _)
 .rw[e];clear e;by_cases hneg:v<0
  .clear h3;go_enter func107,ntmps107;go_wp2
   go_ret2;exact mI.nil _ (Below.refl _ _)
  .obtain⟨u,rfl⟩:=Xq (by omega:0<=v);obtain⟨m,rfl⟩:=Xq (by omega:0<=n);have hlen:(m:Int) - 1<((bf u (qL u)).length:Int):=by
    have h4:¬ u<8^(m - 1):=by rcases h3 with h3|h3;exact absurd h3 hneg;simpa using h3
    have h5:¬ qL u<=m - 1:=fun h=>h4 ((Rj u (m - 1) (by omega)).1 h)
    unfold bf;rw[cu];omega
   have HF:=ah (zU u (by omega) w hT);generalize bf u (qL u)=s at *
   clear h3;go_enter func107,ntmps107;go_wp2_with (go_at_call 140;(with_reducible refine(HF.out).mono ?_);rintro e w1 ⟨rfl,hb⟩)
   go_ret2;exact mI.nil _ hb
 .rw[e];clear e;obtain⟨u,rfl⟩:=Xq h3;obtain⟨m,rfl⟩:=Xq (by omega:0<=n);simp only[Int.toNat_natCast] at h4 ⊢;have h5:qL u<=m - 1:=(Rj u (m - 1) (by omega)).2 h4;have hlen:(bf u (qL u)).length=qL u:=by unfold bf;rw[cu]
  have htx:=Kz u (m - 1) h5;have hll:(bf u (m - 1)).length=m - 1:=by unfold bf;rw[cu]
  have HF:=ah (zU u (by omega) w hT);obtain⟨c,hc⟩:∃ c:Nat,(m:Int) - 1-((bf u (qL u)).length:Int)=(c:Int):=⟨m - 1-qL u,by rw[hlen];omega⟩
  have hcc:m - 1-qL u=c:=by rw[hlen] at hc;omega
  have hle:((bf u (qL u)).length:Int)<=(m:Int) - 1:=by rw[hlen];omega
  rw[hcc] at htx;generalize bf u (m - 1)=t at *
  generalize bf u (qL u)=s at *
  have HR:=ah (fun w=>Ma c (by omega) w);have hs1:=Q8 (List.replicate c 48) s;have hs2:=Q8 t [0];rw[htx] at hs1;have htl:t.length<=63:=by omega
  have hz1:(List.replicate c (48:UInt8)).length<=64:=by rw[Xm];omega
  have ahR:s.length<=64:=by omega
  have hti:(t.length:Int)<=63:=by omega
  clear htx hcc hlen h4 hll;generalize List.replicate c (48:UInt8)=z at *
  go_enter func107,ntmps107;go_wp2_with (first|(go_at_call 140;(with_reducible refine(HF.out).mono ?_);rintro e w1 ⟨rfl,hb⟩)|(go_at_call 141;(with_reducible refine(HR.out _).mono ?_);rintro e w2 ⟨rfl,hb2⟩)|((with_reducible refine yM rfl _ _ _ rfl underlying9 underlying22 underlying5 rfl (by rw[vG];simp only[qcn];omega) ?_);intro a3 c3 w3 agN hb3 hf3))
  have ahs:Bs w3 a3 (t.length+1) c3 (t++[0]):=by have:=agN;rwa [vG] at this
  go_ret2;have hf4:Free w3 w2.heap.size a3 (t.length+1) c3:=by have:=hf3;rwa [vG] at this
  exact⟨a3,_,c3,rfl,ahs,Below.seq (Below.seq hb hb2) hb3,hf4.base (Below.seq hb hb2).size⟩
theorem Jt(v n:Int)(w:World)(hT:EZ w)(v0:-9223372036854775808<=v)(v1:v<=9223372036854775807)(n0:-9223372036854775808<=n)(n1:n<=9223372036854775807):Calls qp0 107 #[.int .i64 v,.int .i64 n] w (Qb w (Plain.fA v n)):=(uX v n w hT v0 v1 n0 n1).mono fun _ _ h=>h.res
end
theorem ko.keep{w wr w':World}{e:TypeId}{l:List UInt8}(h:ko w e l wr)(k:Below wr.heap.size wr w'):ko w e l w':=by
 refine⟨Below.seq h.bJ k,?_⟩;rw[k.block _ (fT.1 h.row).1];exact h.row
theorem ko.field{w wr:World}{e:TypeId}{l:List UInt8}(h:ko w e l wr)(hl:l.length=512):Bs wr (some ⟨w.heap.size,148,none⟩) (156 - 148) (512 - 148) (nO l) :=Nj h.row 148 156 (512 - 148) (by decide) (by omega) (by decide) (by unfold maxLen;omega)
theorem TB(l:List UInt8)(n1 n2 U S:Int)(h:Plain.number (nO l)=(n1,n2))(hU:Plain.sum uby l=U)(hS:Plain.sum Ju l=S):Plain.sealed l=(n2==0&&(n1==U||n1==S)):=by
 unfold Plain.sealed;rw[h,hU,hS,qbG];simp
theorem vE(l:List UInt8)(hl:l.length=512)(w:World)(ev:Value)(hE:eO w ev):Calls qp0 38 #[.agg (aL l)] w fun e w'=>e=.returned (.bool (Plain.sealed l))/\Below w.heap.size w w':=by
 have HR:=ah (ko.new w 70 l);have HS:=ah (fun w=>KX l hl w);have HI:=ah (iL l hl);have HL:=ah hl;have HE:=ah hE;have hq:=TB l;generalize hn:Plain.number (nO l)=r at *
 obtain⟨n1,n2⟩:=r;generalize hU:Plain.sum uby l=U at *
 generalize hV:Plain.sum Ju l=V at *
 have hq2:=hq n1 n2 U V rfl rfl rfl;have HN:=ah hn;have HQ:=ah hq2;clear hq hq2 hl hE hn hU hV;go_enter func38,ntmps38;go_wp2_with (with_reducible refine dO rfl _ _ rfl (aL l) rfl ?_)
 have hR:=HR.out;generalize w.alloc (.cells (aL l) 70)=wa at *
 have HRR:=ah hR;clear hR HR;go_wp2_with (first|(go_at_call 72;(refine(qM _ _ _ (nO l) wa ev (by exact HRR.out.field HL.out) (by decide) (by exact HE.out.below HRR.out.bJ)).mono ?_);rintro e w1 ⟨rfl,hb1⟩;rw[HN.out];unfold nU;have HR1:=ah (HRR.out.keep hb1);have H1:=ah HR1.out.row;clear hb1)|(with_reducible refine wpList_load_row rfl _ _ rfl w.heap.size rfl 70 (aL l) (0,0) _ H1.out underlying70 rfl HI.out ?_)|(go_at_call 73;(with_reducible refine(HS.out _).mono ?_);rintro e w2 ⟨rfl,hb2⟩;have HB2:=ah (Below.seq HR1.out.bJ hb2);clear hb2))
 all_goals
  go_ret;refine⟨yw ?_,HB2.out⟩;rw[HQ.out]
  first|rfl|simp_all
theorem results_cell_tmp{P:Program}{fn:Func}{p q:Tmp}{ty:TypeId}(h:fn.results=#[.cell p ty,.tmp q])(tmps:Array Value)(w:World)(g:Nat)(t:TypeId)(cs:Array Value)(fr:Nat×Nat)(d:TypeDesc)(v:Value)(hp:tmps.getD p undef=.pointer (some ⟨g,0,none⟩))(hq:tmps.getD q undef=v)(hg:w.heap[g]? = some (.cells cs t fr))(hu:P.underlying ty=some d)(hd:(match d with|.struct _|.array _ _=>true|_=>false)=true)(hi:(P.info? ty).map (·.size)=some cs.size):(results fn tmps).run P w=.ok (.tuple #[.agg cs,v]) w:=by
 have hp':tmps[p]?.getD undef=.pointer (some ⟨g,0,none⟩):=by simpa using hp
 have hq':tmps[q]?.getD undef=v:=by simpa using hq
 simp[results,h,hp',hq',asAddr,run_loadVar_row w g t ty cs fr d hg hu hd hi]
def dQ(h:Hd):Array Value:=#[.string ⟨h.name.toArray⟩,.string ⟨h.link.toArray⟩,.int .i64 h.mode,.int .i64 h.uid,.int .i64 h.gid,.int .i64 h.size,.int .i64 h.mtime,.int .u8 (h.ty.toNat:Int),.string ⟨h.user.toArray⟩,.string ⟨h.group.toArray⟩,.int .i64 h.major,.int .i64 h.minor,.int .i64 h.form]
theorem Zc(h:Hd):(dQ h).size=13:=rfl
theorem jP(h:Hd):∀ u∈(dQ h).toList,u.oneCell'=true:=by
 intro u hu;simp[dQ] at hu;rcases hu with h|h|h|h|h|h|h|h|h|h|h|h|h <;> subst h <;> rfl
theorem mo(h:Hd):(qp0.info? 74).map (·.size)=some (dQ h).size:=by rw[Zc];kernel_rfl
def Km(r:Hd×Int):Value:=.tuple #[.agg (dQ r.1),.int .i64 r.2]
structure H2(w:World)(l:List UInt8)(wr:World):Prop where
 bJ:Below w.heap.size w wr
 r0:wr.heap[w.heap.size]? = some (.cells (aL l) 70 (0,0))
 r1:wr.heap[w.heap.size+1]? = some (.cells (dQ Hd.zero) 74 (0,0))
theorem H2.new(w:World)(l:List UInt8):H2 w l ((w.alloc (.cells (aL l) 70)).alloc (.cells (dQ Hd.zero) 74)) :=⟨((Below.refl _ _).alloc (aY _) _).alloc (by simp) _,heap_alloc2_old _ _ _,heap_alloc2_new _ _ _⟩
theorem H2.lit(w:World)(l:List UInt8):H2 w l ((w.alloc (.cells (aL l) 70)).alloc (.cells #[.string ⟨#[]⟩,.string ⟨#[]⟩,.int .i64 0,.int .i64 0,.int .i64 0,.int .i64 0,.int .i64 0,.int .u8 0,.string ⟨#[]⟩,.string ⟨#[]⟩,.int .i64 0,.int .i64 0,.int .i64 0] 74)):=H2.new w l
theorem H2.lt{w wr:World}{l:List UInt8}(h:H2 w l wr):w.heap.size+1<wr.heap.size:=(fT.1 h.r1).1
theorem H2.keep{w wr w':World}{l:List UInt8}(h:H2 w l wr)(k:Below wr.heap.size wr w'):H2 w l w':=by
 refine⟨Below.seq h.bJ k,?_,?_⟩
 .rw[k.block _ (fT.1 h.r0).1];exact h.r0
 .rw[k.block _ h.lt];exact h.r1
theorem H2.part{w wr:World}{l:List UInt8}(h:H2 w l wr)(hl:l.length=512)(s e:Nat)(h1:s<=e)(h2:e<=512):Bs wr (some ⟨w.heap.size,s,none⟩) (e-s) (512-s) (eH l s e) :=Nj h.r0 s e (512-s) h1 (by omega) (by omega) (by unfold maxLen;omega)
theorem Lx(l:List UInt8)(hl:l.length=512)(w:World)(ev:Value)(hE:eO w ev)(h:l=cZ\/Plain.sealed l=false):Calls qp0 113 #[.agg (aL l)] w fun e w'=>e=.returned (Km (Plain.hread l))/\Below w.heap.size w w':=by
 have hr:Plain.hread l=(Hd.zero,if l=cZ then 40 else 41):=by
  unfold Plain.hread;by_cases c:l=cZ
  .rw[if_pos c,if_pos c]
  .rw[if_neg c,if_neg c,if_pos (h.resolve_left c)]
 rw[hr];have HH:=ah (H2.lit w l);have HI:=ah (iL l hl);have HD:=ah (mo Hd.zero);have HO:=ah (jP Hd.zero);have HZ:=ah (fun w=>CK l hl w);have HS:=ah (fun w hE=>vE l hl w ev hE);have HE:=ah hE;clear hE hr;by_cases c:l=cZ
 .rw[if_pos c];have hd:decide (l=cZ)=true:=uQ c;rw[hd] at HZ;clear h c hd HS;go_enter func113,ntmps113;go_upto_region 1 with(with_reducible refine dO rfl _ _ rfl (aL l) rfl ?_)
  have hR:=HH.out;generalize (w.alloc (.cells (aL l) 70)).alloc (.cells #[.string ⟨#[]⟩,.string ⟨#[]⟩,.int .i64 0,.int .i64 0,.int .i64 0,.int .i64 0,.int .i64 0,.int .u8 0,.string ⟨#[]⟩,.string ⟨#[]⟩,.int .i64 0,.int .i64 0,.int .i64 0] 74)=wa at *
  have HR:=ah hR;clear hR HH;go_wp2_with (first|(with_reducible refine wpList_load_row rfl _ _ rfl w.heap.size rfl 70 (aL l) (0,0) _ HR.out.r0 underlying70 rfl HI.out ?_)|(go_at_call 144;(with_reducible refine(HZ.out _).mono ?_);rintro e w1 ⟨rfl,hb1⟩;have HR1:=ah (HR.out.keep hb1);clear hb1)|(with_reducible refine wpList_store_row rfl 74 _ _ rfl (w.heap.size+1) rfl (dQ Hd.zero) rfl (dQ Hd.zero) 74 HR1.out.r1 rfl HD.out HO.out ?_))
  refine bodyPost_ret (results_cell_tmp rfl _ _ (w.heap.size+1) 74 (dQ Hd.zero) (0,0) _ _ rfl rfl (setRow_heap _ _ _ _ _ _ HR1.out.r1) underlying74 rfl HD.out) rfl ⟨rfl,Below.setRow HR1.out.bJ (by omega) _⟩
 .rw[if_neg c];have hd:decide (l=cZ)=false:=uU c;rw[hd] at HZ;rw[h.resolve_left c] at HS;clear h c hd;go_enter func113,ntmps113;go_upto_region 1 with(with_reducible refine dO rfl _ _ rfl (aL l) rfl ?_)
  have hR:=HH.out;generalize (w.alloc (.cells (aL l) 70)).alloc (.cells #[.string ⟨#[]⟩,.string ⟨#[]⟩,.int .i64 0,.int .i64 0,.int .i64 0,.int .i64 0,.int .i64 0,.int .u8 0,.string ⟨#[]⟩,.string ⟨#[]⟩,.int .i64 0,.int .i64 0,.int .i64 0] 74)=wa at *
  have HR:=ah hR;clear hR HH;go_wp2_with (first|(with_reducible refine wpList_load_row rfl _ _ rfl w.heap.size rfl 70 (aL l) (0,0) _ HR.out.r0 underlying70 rfl HI.out ?_)|(go_at_call 144;(with_reducible refine(HZ.out _).mono ?_);rintro e w1 ⟨rfl,hb1⟩;have HR1:=ah (HR.out.keep hb1);clear hb1)|(with_reducible refine wpList_load_row rfl _ _ rfl w.heap.size rfl 70 (aL l) (0,0) _ HR1.out.r0 underlying70 rfl HI.out ?_)|(go_at_call 38;(with_reducible refine(HS.out _ (by exact HE.out.below HR1.out.bJ)).mono ?_);rintro e w2 ⟨rfl,hb2⟩;have HR2:=ah (HR1.out.keep hb2);clear hb2)|(with_reducible refine wpList_store_row rfl 74 _ _ rfl (w.heap.size+1) rfl (dQ Hd.zero) rfl (dQ Hd.zero) 74 HR2.out.r1 rfl HD.out HO.out ?_))
  refine bodyPost_ret (results_cell_tmp rfl _ _ (w.heap.size+1) 74 (dQ Hd.zero) (0,0) _ _ rfl rfl (setRow_heap _ _ _ _ _ _ HR2.out.r1) underlying74 rfl HD.out) rfl ⟨rfl,Below.setRow HR2.out.bJ (by omega) _⟩
section
def Zr(l:List UInt8)(k:Nat):Int×Int:=mD l (fieldAt k).1 (fieldAt k).2.1
def wW(l:List UInt8)(k:Nat):Bool:=rQ (Zr l k) (fieldAt k).2.2.1 (fieldAt k).2.2.2
theorem FV(l:List UInt8):nK l=(wW l 0&&wW l 1&&wW l 2&&wW l 3&&wW l 4&&(!om l||(wW l 5&&wW l 6))):=rfl
theorem M9(l:List UInt8)(k:Nat)(hk:k<7)(h5:k<5\/om l=true)(h:wW l k=false):nK l=false:=by
 rw[FV];rcases (by omega:k=0\/k=1\/k=2\/k=3\/k=4\/k=5\/k=6) with rfl|rfl|rfl|rfl|rfl|rfl|rfl
 .simp[h]
 .simp[h]
 .simp[h]
 .simp[h]
 .simp[h]
 .simp[h,h5.resolve_left (by decide)]
 .simp[h,h5.resolve_left (by decide)]
theorem KC(l:List UInt8)(k:Nat)(hk:k=7\/(k=5/\om l=false))(h:∀ j,j<k->wW l j=true):nK l=true:=by
 rw[FV];rcases hk with rfl|⟨rfl,hd⟩
 .rw[h 0 (by decide),h 1 (by decide),h 2 (by decide),h 3 (by decide),h 4 (by decide),h 5 (by decide),h 6 (by decide)];simp
 .rw[h 0 (by decide),h 1 (by decide),h 2 (by decide),h 3 (by decide),h 4 (by decide),hd];simp
theorem Wm(l:List UInt8)(k:Nat):wW l k=true↔(Zr l k).2=0/\(fieldAt k).2.2.1<=(Zr l k).1/\(Zr l k).1<=(fieldAt k).2.2.2:=by unfold wW rQ;simp
theorem qm(k:Nat)(h:k<7):(fieldAt k).1<=(fieldAt k).2.1/\(fieldAt k).2.1<=345/\(fieldAt k).1<345:=by
 rcases (by omega:k=0\/k=1\/k=2\/k=3\/k=4\/k=5\/k=6) with rfl|rfl|rfl|rfl|rfl|rfl|rfl <;> decide
def Oc(l:List UInt8)(k:Nat):List Int:=(List.range 7).map fun j=>if j<k then(Zr l j).1 else 0
theorem QW(l:List UInt8)(k:Nat):(Oc l k).length=7:=by simp[Oc]
theorem aaO(l:List UInt8)(k:Nat)(h:k<7):(Oc l k).set k (Zr l k).1=Oc l (k+1):=by
 apply List.ext_getElem (by simp[Oc]);intro i h1 h2;simp only[Oc,V7,List.length_range] at h2;rw[List.getElem_set];simp only[Oc,List.getElem_map,List.getElem_range];by_cases e:k=i
 .subst e;simp
 .rw[if_neg e];by_cases h3:i<k
  .rw[if_pos h3,if_pos (by omega)]
  .rw[if_neg h3,if_neg (by omega)]
def vC(vs:List Int):Array Value:=(vs.map (Value.int .i64)).toArray
theorem adZ(vs:List Int)(k:Nat)(x:Int):(vC vs).setIfInBounds k (.int .i64 x)=vC (vs.set k x):=by simp[vC,List.map_set]
theorem abT(vs:List Int)(k:Nat)(h:k<vs.length):(vC vs)[k]? = some (.int .i64 (vs.getD k 0)):=by simp[vC,List.getD,kM h]
structure H3(w:World)(l:List UInt8)(gh:Nat)(h:Hd)(wr:World):Prop where
 two:H2 w l wr
 ge:w.heap.size+2<=gh
 rh:wr.heap[gh]? = some (.cells (dQ h) 74 (0,0))
theorem H3.lt{w wr:World}{l:List UInt8}{gh:Nat}{h:Hd}(k:H3 w l gh h wr):gh<wr.heap.size:=(fT.1 k.rh).1
theorem H3.keep{w wr w':World}{l:List UInt8}{gh:Nat}{h:Hd}(x:H3 w l gh h wr)(k:Below wr.heap.size wr w'):H3 w l gh h w' :=⟨x.two.keep k,x.ge,by rw[k.block _ x.lt];exact x.rh⟩
theorem H3.cell{w wr:World}{l:List UInt8}{gh:Nat}{h:Hd}(x:H3 w l gh h wr)(k:Nat):wr.cell? ⟨gh,k,none⟩=(dQ h)[k]?:=by rw[cell_of_row _ _ _ _ _ _ x.rh]
theorem H3.free{w wr:World}{l:List UInt8}{gh:Nat}{h:Hd}(x:H3 w l gh h wr)(k:Nat):wr.frozen? ⟨gh,k,none⟩=false:=frozen_of_row _ _ _ _ _ x.rh
theorem H2.setOther{w wr:World}{l:List UInt8}(x:H2 w l wr){g k:Nat}(hg:w.heap.size+2<=g)(v:Value):H2 w l (wr.setCell ⟨g,k,none⟩ v):=by
 refine⟨x.bJ.setCell (show w.heap.size<=(⟨g,k,none⟩:Addr).block from by simp only;omega) v,?_,?_⟩
 .rw[heap_setCell_other _ _ _ _ (by simp only;omega)];exact x.r0
 .rw[heap_setCell_other _ _ _ _ (by simp only;omega)];exact x.r1
theorem H3.set{w wr:World}{l:List UInt8}{gh:Nat}{h h':Hd}(x:H3 w l gh h wr)(k:Nat)(v:Value)(e:(dQ h).setIfInBounds k v=dQ h'):H3 w l gh h' (wr.setCell ⟨gh,k,none⟩ v) :=⟨x.two.setOther x.ge v,x.ge,by rw[heap_setCell_same _ _ _ _ _ _ x.rh,e]⟩
structure H4(w:World)(l:List UInt8)(gh:Nat)(h:Hd)(gv:Nat)(vs:List Int)(wr:World):Prop where
 three:H3 w l gh h wr
 ge:gh<gv
 rv:wr.heap[gv]? = some (.cells (vC vs) 130 (0,0))
theorem H4.lt{w wr:World}{l:List UInt8}{gh:Nat}{h:Hd}{gv:Nat}{vs:List Int}(k:H4 w l gh h gv vs wr):gv<wr.heap.size:=(fT.1 k.rv).1
theorem H4.keep{w wr w':World}{l:List UInt8}{gh:Nat}{h:Hd}{gv:Nat}{vs:List Int}(x:H4 w l gh h gv vs wr)(k:Below wr.heap.size wr w'):H4 w l gh h gv vs w' :=⟨x.three.keep k,x.ge,by rw[k.block _ x.lt];exact x.rv⟩
theorem H4.cell{w wr:World}{l:List UInt8}{gh:Nat}{h:Hd}{gv:Nat}{vs:List Int}(x:H4 w l gh h gv vs wr)(k:Nat)(hk:k<vs.length):wr.cell? ⟨gv,k,none⟩=some (.int .i64 (vs.getD k 0)):=by
 rw[cell_of_row _ _ _ _ _ _ x.rv,abT _ _ hk]
theorem H4.free{w wr:World}{l:List UInt8}{gh:Nat}{h:Hd}{gv:Nat}{vs:List Int}(x:H4 w l gh h gv vs wr)(k:Nat):wr.frozen? ⟨gv,k,none⟩=false:=frozen_of_row _ _ _ _ _ x.rv
theorem H4.put{w wr:World}{l:List UInt8}{gh:Nat}{h:Hd}{gv:Nat}{vs:List Int}(x:H4 w l gh h gv vs wr)(k:Nat)(v:Int):H4 w l gh h gv (vs.set k v) (wr.setCell ⟨gv,k,none⟩ (.int .i64 v)):=by
 have h1:=x.three.ge;have h2:=x.ge;exact⟨⟨x.three.two.setOther (by omega) _,x.three.ge,by rw[heap_setCell_other _ _ _ _ (by simp only;omega)];exact x.three.rh⟩,x.ge,by rw[heap_setCell_same _ _ _ _ _ _ x.rv,adZ]⟩
theorem H4.set{w wr:World}{l:List UInt8}{gh:Nat}{h h':Hd}{gv:Nat}{vs:List Int}(x:H4 w l gh h gv vs wr)(k:Nat)(v:Value)(e:(dQ h).setIfInBounds k v=dQ h'):H4 w l gh h' gv vs (wr.setCell ⟨gh,k,none⟩ v):=by
 have h2:=x.ge;exact⟨x.three.set k v e,x.ge,by rw[heap_setCell_other _ _ _ _ (by simp only;omega)];exact x.rv⟩
theorem xw(k:Nat)(hk:k<7)(w:World):(Instr.index 133 (.agg nW) (.int .i64 (k:Int))).run qp0 w=.ok (.agg (Cj k).toArray) w:=by
 rcases (by omega:k=0\/k=1\/k=2\/k=3\/k=4\/k=5\/k=6) with rfl|rfl|rfl|rfl|rfl|rfl|rfl <;> kernel_rfl
section
variable {P:Program}{ops:Array Oper}{rest:List Oper}{o:Oper}{a:Act}{w:World}{Q:Exit->Act->World->Prop}
theorem je(hgd:o.guard=none)(t:TypeId)(y x:Operand)(ho:o.op=.index t y x){vy vx:Value}(hy:a.eval y=vy)(hx:a.eval x=vx)(v:Value)(hr:(Instr.index t vy vx).run P w=.ok v w)(h:wpList P ops Q rest (a.put o.dst v) w):wpList P ops Q (o::rest) a w:=by
 refine bI hgd _ _ ?_ h;simp[execOp,ho,hy,hx,hr,Result.andThen]
end
end
structure afM(h:Hd):Prop where
 name:h.name.length<=140737488351232
 link:h.link.length<=140737488351232
 user:h.user.length<=140737488351232
 group:h.group.length<=140737488351232
def Na(s:List UInt8)(n:Int):Bool:=decide ((s.length:Int)<=n)&&decide (Lib.indexByte s 0<0)
theorem abI(l:List UInt8):(0:UInt8)∈l↔0<=Lib.indexByte l 0:=by
 constructor
 .intro h;rcases Int.lt_or_le (Lib.indexByte l 0) 0 with h0|h0
  .exfalso;obtain⟨k,hk,he⟩:=qbz h;exact Plain.indexByte_none l h0 k hk (by simp[List.getD,kM hk,he])
  .exact h0
 .intro h;obtain⟨j,hj,h0⟩:=Plain.indexByte_some l h;have:l[j]=0:=by simpa[List.getD,kM hj] using h0
  rw[<-this];exact VE hj
theorem CZ(s:List UInt8)(n:Nat):Na s n=true↔s.length<=n/\(0:UInt8)∉s:=by
 unfold Na;rw[abI,fE,decide_eq_true_eq,decide_eq_true_eq];omega
def Ct(h:Hd):Nat->Int
 | 0=>h.mode
 | 1=>h.uid
 | 2=>h.gid
 | 3=>h.size
 | 4=>h.mtime
 | 5=>h.major
 | _=>h.minor
def JI(k:Nat):Int:=((fieldAt k).2.1:Int)-((fieldAt k).1:Int)
def Cu(h:Hd)(k:Nat):Bool:=decide ((Plain.put (Ct h k) (JI k)).2=0/\(fieldAt k).2.2.1<=Ct h k/\Ct h k<=(fieldAt k).2.2.2)
def Va(h:Hd):Bool:=decide ((Plain.split h.name).2.2=0)&&(Na h.link 100&&(Na h.user 32&&(Na h.group 32&&decide (h.ty≠0))))
theorem Ms(h:Hd)(hi:Ol h):rO h=true↔Va h=true/\∀ k,k<7->Cu h k=true:=by
 have b1:=(gM h.mode).1 hi.mode;have b2:=(gM h.size).1 hi.size;have b3:=(gM h.major).1 hi.major;have b4:=(gM h.minor).1 hi.minor;have f1:=CZ h.link 100;have f2:=CZ h.user 32;have f3:=CZ h.group 32;unfold rO Va;simp only[fE,decide_eq_true_eq];have e100:((100:Nat):Int)=100:=rfl;have e32:((32:Nat):Int)=32:=rfl;rw[e100] at f1;rw[e32] at f2 f3;rw[f1,f2,f3];have hk:(∀ k,k<7->Cu h k=true)↔(Cu h 0=true/\Cu h 1=true/\Cu h 2=true/\Cu h 3=true/\Cu h 4=true/\Cu h 5=true/\Cu h 6=true):=by
  constructor
  .intro a;exact⟨a 0 (by decide),a 1 (by decide),a 2 (by decide),a 3 (by decide),a 4 (by decide),a 5 (by decide),a 6 (by decide)⟩
  .rintro⟨a0,a1,a2,a3,a4,a5,a6⟩ k hk;rcases (by omega:k=0\/k=1\/k=2\/k=3\/k=4\/k=5\/k=6) with rfl|rfl|rfl|rfl|rfl|rfl|rfl
   .exact a0
   .exact a1
   .exact a2
   .exact a3
   .exact a4
   .exact a5
   .exact a6
 rw[hk];have k0:Cu h 0=decide ((Plain.put h.mode 8).2=0/\0<=h.mode/\h.mode<=9223372036854775807):=rfl;have k1:Cu h 1=decide ((Plain.put h.uid 8).2=0/\0<=h.uid/\h.uid<=2147483647):=rfl;have k2:Cu h 2=decide ((Plain.put h.gid 8).2=0/\0<=h.gid/\h.gid<=2147483647):=rfl;have k3:Cu h 3=decide ((Plain.put h.size 12).2=0/\0<=h.size/\h.size<=9223372036854775807):=rfl;have k4:Cu h 4=decide ((Plain.put h.mtime 12).2=0/\-1099511627776<=h.mtime/\h.mtime<=1099511627776):=rfl;have k5:Cu h 5=decide ((Plain.put h.major 8).2=0/\0<=h.major/\h.major<=9223372036854775807):=rfl;have k6:Cu h 6=decide ((Plain.put h.minor 8).2=0/\0<=h.minor/\h.minor<=9223372036854775807):=rfl;rw[k0,k1,k2,k3,k4,k5,k6];simp only[decide_eq_true_eq];constructor
 .rintro⟨⟨⟨g1,g2,g3,g4,g5,g6,g7,g8⟩,m1,m2,m3,m4,m5,m6,m7,m8,m9,m10⟩,p1,p2,p3,p4,p5,p6,p7⟩;refine⟨⟨g1,⟨g2,g5⟩,⟨g3,g6⟩,⟨g4,g7⟩,g8⟩,⟨p1,m1,by omega⟩,⟨p2,m5,m6⟩,⟨p3,m7,m8⟩,⟨p4,m2,by omega⟩,⟨p5,m9,m10⟩,⟨p6,m3,by omega⟩,⟨p7,m4,by omega⟩⟩
 .rintro⟨⟨g1,⟨g2,g5⟩,⟨g3,g6⟩,⟨g4,g7⟩,g8⟩,⟨p1,m1,_⟩,⟨p2,m5,m6⟩,⟨p3,m7,m8⟩,⟨p4,m2,_⟩,⟨p5,m9,m10⟩,⟨p6,m3,_⟩,⟨p7,m4,_⟩⟩;exact⟨⟨⟨g1,g2,g3,g4,g5,g6,g7,g8⟩,m1,m2,m3,m4,m5,m6,m7,m8,m9,m10⟩,p1,p2,p3,p4,p5,p6,p7⟩
def MZ(h:Hd):Nat->List UInt8
 | 0=>cZ
 | k+1=>lay (MZ h k) (fieldAt k).1 (Plain.put (Ct h k) (JI k)).1
theorem XH(h:Hd)(hi:Ol h)(k:Nat):iF (Ct h k)=true:=by
 rcases k with _|_|_|_|_|_|k
 .exact hi.mode
 .exact hi.uid
 .exact hi.gid
 .exact hi.size
 .exact hi.mtime
 .exact hi.major
 .exact hi.minor
theorem mX(h:Hd)(hi:Ol h)(k:Nat)(hk:k<7)(ho:Cu h k=true):(Plain.put (Ct h k) (JI k)).1.length=(fieldAt k).2.1-(fieldAt k).1:=by
 have hb:=qm k hk;unfold Cu at ho;rw[decide_eq_true_eq] at ho;refine aau (Ct h k) (JI k) (XH h hi k) ho.1 _ ?_;unfold JI;omega
theorem QK(h:Hd)(hi:Ol h):∀ k,k<=7->(∀ j,j<k->Cu h j=true)->(MZ h k).length=512
 | 0,_,_=>nS
 | k+1,hk,ho=>by
  have ih:=QK h hi k (by omega) (fun j hj=>ho j (by omega));have hb:=qm k (by omega);have hl:=mX h hi k (by omega) (ho k (by omega));show(lay (MZ h k) (fieldAt k).1 _).length=512;rw[gF _ _ _ (by rw[ih,hl];omega),ih]
def adE(h:Hd):List UInt8 :=lay (lay (lay (lay (lay (lay (lay (MZ h 7) 0 (Plain.split h.name).2.1) 156 [h.ty]) 157 h.link) 257 dB) 265 h.user) 297 h.group) 345 (Plain.split h.name).1
theorem ZE(h:Hd)(hi:Ol h)(hg:rO h=true):adE h=oZ h:=by
 have hg2:=(Ms h hi).1 hg;have ho:=hg2.2;unfold rO at hg;rw[fE,fE,decide_eq_true_eq,decide_eq_true_eq,decide_eq_true_eq] at hg;obtain⟨⟨⟨g1,g2,g3,g4,g5,g6,g7,g8⟩,_⟩,_⟩:=hg;have hsp:∃ p s,Plain.split h.name=(p,s,0)/\Plain.Well h.name p s:=by
  rcases Plain.zZ h.name with h1|⟨h1,_⟩
  .exact h1
  .rw[h1] at g1;cases g1
 obtain⟨p,s,hps,hw⟩:=hsp;obtain⟨w1,w2,w3,w4⟩:=hw;have l0:=mX h hi 0 (by decide) (ho 0 (by decide));have l1:=mX h hi 1 (by decide) (ho 1 (by decide));have l2:=mX h hi 2 (by decide) (ho 2 (by decide));have l3:=mX h hi 3 (by decide) (ho 3 (by decide));have l4:=mX h hi 4 (by decide) (ho 4 (by decide));have l5:=mX h hi 5 (by decide) (ho 5 (by decide));have l6:=mX h hi 6 (by decide) (ho 6 (by decide));have hc:=O7 s (Plain.put (Ct h 0) (JI 0)).1 (Plain.put (Ct h 1) (JI 1)).1 (Plain.put (Ct h 2) (JI 2)).1 (Plain.put (Ct h 3) (JI 3)).1 (Plain.put (Ct h 4) (JI 4)).1 (Plain.put (Ct h 5) (JI 5)).1 (Plain.put (Ct h 6) (JI 6)).1 h.link h.user h.group p h.ty w2
  (Zj l0) (Zj l1) (Zj l2) (Zj l3) (Zj l4) (Zj l5) (Zj l6) g2 g3 g4 w3
 unfold adE oZ partsOf;rw[hps];exact hc
theorem UD(h:Hd)(hg:rO h=true):Plain.make h=(Plain.seal (oZ h),0):=by unfold Plain.make;rw[if_pos hg]
def bn(l:List UInt8):List UInt8:=l.takeWhile (· != 32)
def tK(u:List UInt8):Option (List UInt8×List UInt8) :=
 if (u.takeWhile (· != 61)).length<u.length/\u.takeWhile (· != 61)≠[] then some (u.takeWhile (· != 61),u.drop ((u.takeWhile (· != 61)).length+1)) else none
def nY(l:List UInt8)(d n:Nat):Option ((List UInt8×List UInt8)×Nat) :=
 if ((l.take n).drop (d+1)).getLast? = some 10 then(tK ((l.take n).drop (d+1)).dropLast).map fun p=>(p,n) else none
def Plain.one(l:List UInt8):Option ((List UInt8×List UInt8)×Nat) :=
 if (bn l).length<l.length/\(bn l).length<=9/\(Plain.decimal (bn l)).2=0/\(bn l).length+1<(Plain.decimal (bn l)).1.toNat/\(Plain.decimal (bn l)).1.toNat<=l.length
 then nY l (bn l).length (Plain.decimal (bn l)).1.toNat else none
theorem Jb(l:List UInt8)(h:l=[]\/l.all bg=false):(Plain.decimal l).2=10:=by
 unfold Plain.decimal;rw[if_pos];rcases h with h|h
 .exact .inl h
 .exact .inr (.inr h)
theorem Nb(l:List UInt8)(d n:Nat)(h1:d+1<n)(h2:n<=l.length):((l.take n).drop (d+1)).getLast? = some (l.getD (n - 1) 0)/\((l.take n).drop (d+1)).dropLast=(l.take (n - 1)).drop (d+1):=by
 have hlen:((l.take n).drop (d+1)).length=n-(d+1):=by rw[zW,zQ];omega
 constructor
 .rw[List.getLast?_eq_getElem?,hlen,qbE,VX];have hk:n - 1<l.length:=by omega
  rw[if_pos (by omega),show d+1+(n-(d+1) - 1)=n - 1 by omega];simp[List.getD,kM hk]
 .rw[List.dropLast_eq_take,hlen,List.take_drop,List.take_take,show min (d+1+(n-(d+1) - 1)) n=n - 1 by omega]
theorem Ob(l:List UInt8)(d n:Nat)(h1:d+1<n)(h2:n<=l.length):nY l d n=if l.getD (n - 1) 0=10 then(tK ((l.take (n - 1)).drop (d+1))).map (fun p=>(p,n)) else none:=by
 obtain⟨a,b⟩:=Nb l d n h1 h2;unfold nY;rw[a,b];by_cases h:l.getD (n - 1) 0=10
 .rw[if_pos (by rw[h]),if_pos h]
 .rw[if_neg (fun e=>h (pQ e)),if_neg h]
theorem Fg(u:List UInt8)(h:u.length<=1):tK u=none:=by
 unfold tK;rw[if_neg];rintro⟨h1,h2⟩;have:u.takeWhile (· != 61)=[]:=O8 (by omega);exact h2 this
theorem X8(l:List UInt8)(d n:Nat)(h1:d+1<n)(h2:n<=l.length)(h4:n<d+4):nY l d n=none:=by
 rw[Ob l d n h1 h2,Fg _ (by rw[zW,zQ];omega)];split <;> rfl
theorem tu(l:List UInt8)(p:List UInt8×List UInt8)(n:Nat)(h:Plain.one l=some (p,n)):5<=n/\n<=l.length:=by
 unfold Plain.one at h;split at h
 .rename_i hc
  obtain⟨h1,h2,h3,h4,h5⟩:=hc;have hn:n=(Plain.decimal (bn l)).1.toNat:=by
   unfold nY at h;split at h
   .rw[zA] at h;obtain⟨q,_,hq⟩:=h;exact(Prod.ext_iff.1 hq).2.symm
   .cases h
  have hpos:0<(bn l).length:=by
   rcases UZ (bn l).length with h0|h0
   .have:bn l=[]:=O8 h0;rw[Jb _ (.inl this)] at h3;cases h3
   .exact h0
  by_cases h4':(Plain.decimal (bn l)).1.toNat<(bn l).length+4
  .rw[X8 l _ _ h4 h5 h4'] at h;cases h
  .omega
 .cases h
def rM:Nat->List UInt8->Option (List (List UInt8×List UInt8))
 | 0,l=>if l=[] then some [] else none
 | f+1,l=>if l=[] then some [] else match Plain.one l with
  | none=>none
  | some (p,n)=>(rM f (l.drop n)).map (p::·)
theorem DF:∀ (f g:Nat)(l:List UInt8),l.length<=f->l.length<=g->rM f l=rM g l
 | 0,0,l,_,_=>rfl
 | 0,g+1,l,h,_=>by
  have:l=[]:=O8 (by omega);subst this;rfl
 | f+1,0,l,_,h=>by
  have:l=[]:=O8 (by omega);subst this;rfl
 | f+1,g+1,l,h1,h2=>by
  unfold rM;by_cases h0:l=[]
  .rw[if_pos h0,if_pos h0]
  .rw[if_neg h0,if_neg h0]
   cases ho:Plain.one l with
   | none=>rfl
   | some r =>
    obtain⟨p,n⟩:=r;have hb:=tu l p n ho;simp only
    rw[DF f g (l.drop n) (by rw[zW];omega) (by rw[zW];omega)]
def Plain.read(l:List UInt8):Option (List (List UInt8×List UInt8)):=rM l.length l
theorem WO:Plain.read []=some []:=rfl
theorem Ru(l:List UInt8)(h:l≠[])(ho:Plain.one l=none):Plain.read l=none:=by
 unfold Plain.read;obtain⟨m,hm⟩:∃ m,l.length=m+1:=⟨l.length - 1,by have:=qbQ.2 h;omega⟩
 rw[hm];unfold rM;rw[if_neg h,ho]
theorem SE(l:List UInt8)(p:List UInt8×List UInt8)(n:Nat)(ho:Plain.one l=some (p,n)):Plain.read l=(Plain.read (l.drop n)).map (p::·):=by
 have hb:=tu l p n ho;have h:l≠[]:=fun h0=>by subst h0;simp at hb;omega
 unfold Plain.read;obtain⟨m,hm⟩:∃ m,l.length=m+1:=⟨l.length - 1,by have:=qbQ.2 h;omega⟩
 rw[hm];conv=>lhs;unfold rM
 rw[if_neg h,ho];simp only
 rw[DF m (l.drop n).length (l.drop n) (by rw[zW];omega) (aY _)]
def nd(u:Nat):Nat:=(Lib.decDigits u).length
theorem Wn(u:Nat):1<=nd u:=qbQ.2 (IY u)
theorem aeA(u:Nat)(h:u<100000000000000000000):nd u<=20:=uK 19 u (by omega)
theorem aak:∀ (v u:Nat),u<=v->nd u<=nd v:=by
 intro v
 induction v using Nat.strongRecOn with
 | ind v ih =>
  intro u huv;by_cases h1:u<10
  .have e:nd u=1:=by unfold nd;rw[Lib.decDigits,dif_pos h1];rfl
   rw[e];exact Wn v
  .have h2:¬ v<10:=by omega
   have e1:nd u=nd (u / 10)+1:=by unfold nd;rw[Lib.decDigits,dif_neg h1,vG];rfl
   have e2:nd v=nd (v / 10)+1:=by unfold nd;rw[Lib.decDigits,dif_neg h2,vG];rfl
   have:=ih (v / 10) (by omega) (u / 10) (by omega);omega
def nN(base d:Nat):Prop:=nd (base+d)=d/\∀ d',d'<d->nd (base+d')≠d'
theorem Fu(base:Nat)(h:base+21<100000000000000000000):∃ d,d<=20/\nN base d:=by
 have key:∀ n,n<=21->(∃ d,d<n/\nN base d)\/(n<=nd (base+n)/\∀ d',d'<n->nd (base+d')≠d'):=by
  intro n
  induction n with
  | zero=>intro _;exact .inr ⟨M8 _,fun d' h=>absurd h (qbq _)⟩
  | succ n ih =>
   intro hn;rcases ih (by omega) with⟨d,h1,h2⟩|⟨h1,h2⟩
   .exact .inl ⟨d,by omega,h2⟩
   .by_cases he:nd (base+n)=n
    .exact .inl ⟨n,by omega,he,h2⟩
    .have:=aak (base+(n+1)) (base+n) (by omega);refine .inr ⟨by omega,fun d' hd'=>?_⟩;by_cases e:d'=n
     .subst e;exact he
     .exact h2 d' (by omega)
 rcases key 21 (aY _) with⟨d,h1,h2⟩|⟨h1,_⟩
 .exact⟨d,by omega,h2⟩
 .have:=aeA (base+21) h;omega
theorem nN.next{base d k:Nat}(h:nN base d)(hk:k<=d)(hne:nd (base+k)≠k):k+1<=d:=by
 by_cases e:k=d
 .subst e;exact absurd h.1 hne
 .omega
theorem nN.here{base d k:Nat}(h:nN base d)(hk:k<=d)(he:nd (base+k)=k):k=d:=by
 by_cases e:k=d
 .exact e
 .exact absurd he (h.2 k (by omega))
theorem nN.pos{base d:Nat}(h:nN base d):1<=d:=by
 have:=Wn (base+d);rw[h.1] at this;exact this
theorem V9(k v:List UInt8)(d:Nat)(w:World)(ht:lV w)(hk:k.length<=140737488351232)(hv:v.length<=140737488351232)(hd:nN (k.length+v.length+3) d)(ahJ:d<=20):Calls qp0 131 #[.agg #[.string ⟨k.toArray⟩,.string ⟨v.toArray⟩]] w fun e w'=>e=.returned (.int .i64 ((k.length+v.length+3+d:Nat):Int))/\Below w.heap.size w w':=by
 have hp1:=hd.pos;have HT:=ah ht;have HD:=ah hd;clear ht hd;go_enter func131,ntmps131;go_wp2
 go_loopw [4] (fun i wr=>∃ j:Nat,1<=j/\j<=d/\i=.int .i64 j/\Below w.heap.size w wr) (fun i _=>d-(intOf i).toNat)
 case atStart=>exact⟨1,by omega,hp1,rfl,(Below.refl _ _).alloc (aY _) _⟩
 case round =>
  obtain⟨j,hj1,hj,rfl,hb⟩:=hrel;have hS:=Vr ((k.length:Int)+v.length+3+j) (by omega) (by omega) wr (HT.out.below hb);have hlen:(Lib.itoa ((k.length:Int)+v.length+3+j)).length=nd (k.length+v.length+3+j):=by
   have e:((k.length:Int)+v.length+3+j)=((k.length+v.length+3+j:Nat):Int):=by omega
   rw[e,Lib.itoa_nonneg];rfl
  generalize Lib.itoa ((k.length:Int)+v.length+3+j)=s at *
  have HS:=ah hS;clear hS;by_cases he:nd (k.length+v.length+3+j)=j
  .obtain rfl:=HD.out.here hj he;rw[he] at hlen;have hq:((s.length:Int)==(j:Int))=true:=by rw[beq_iff_eq];omega
   go_wp2_with (go_at_call 91;refine(HS.out).mono ?_;rintro e w1 ⟨rfl,hb1⟩)
   go_ret;exact⟨by go_num,Below.seq hb hb1⟩
  .have hn:=HD.out.next hj he
   have hq:((s.length:Int)==(j:Int))=false:=by rw[beq_eq_false_iff_ne];omega
   clear he hlen;go_wp2_with (go_at_call 91;refine(HS.out).mono ?_;rintro e w1 ⟨rfl,hb1⟩)
   exact⟨⟨j+1,by omega,hn,by go_num,Below.seq hb hb1⟩,by simp[intOf];omega⟩
def KI:Nat->Nat->Nat->Nat
 | 0,_,d=>d
 | f+1,base,d=>if nd (base+d)=d then d else KI f base (d+1)
theorem Kw(base d0:Nat)(h:nN base d0):∀ f d,d<=d0->d0<=d+f->KI f base d=d0
 | 0,d,h1,h2=>by unfold KI;omega
 | f+1,d,h1,h2=>by
  unfold KI;by_cases he:nd (base+d)=d
  .rw[if_pos he];exact h.here h1 he
  .rw[if_neg he];exact Kw base d0 h f (d+1) (h.next h1 he) (by omega)
abbrev Pt:=List UInt8×List UInt8
def iN(p:Pt):Nat:=p.1.length+p.2.length+3
def jO(p:Pt):Nat:=iN p+KI 22 (iN p) 0
theorem vQ(p:Pt)(h:iN p+21<100000000000000000000):∃ d,d<=20/\nN (iN p) d/\jO p=iN p+d:=by
 obtain⟨d,h1,h2⟩:=Fu (iN p) h;exact⟨d,h1,h2,by unfold jO;rw[Kw (iN p) d h2 22 0 (by omega) (by omega)]⟩
abbrev Pr:=List UInt8×List UInt8
def aR(p:Pr):List Value:=[.string ⟨p.1.toArray⟩,.string ⟨p.2.toArray⟩]
theorem sw(p:Pr):(aR p).length=2:=rfl
def uD(w:World)(a:Option Addr)(n c:Nat)(l:List Pr):Prop:=wh w 2 a n c (l.flatMap aR)
theorem uD.len{w:World}{a:Option Addr}{n c:Nat}{l:List Pr}(h:uD w a n c l):l.length=n:=by
 have:=h.1;rw[Kh sw] at this;omega
theorem uD.cap{w:World}{a:Option Addr}{n c:Nat}{l:List Pr}(h:uD w a n c l):n<=c:=h.2.1
theorem uD.max{w:World}{a:Option Addr}{n c:Nat}{l:List Pr}(h:uD w a n c l):c<=9223372036854775807:=h.2.2.1
theorem Below.Sq{w w':World}{a:Option Addr}{n c:Nat}{l:List Pr}(k:Below w.heap.size w w')(h:uD w a n c l):uD w' a n c l:=(Below.keeps k).sl h
theorem Keeps.Sq{w w':World}{a:Option Addr}{n c:Nat}{l:List Pr}(k:Keeps w w')(h:uD w a n c l):uD w' a n c l:=k.sl h
theorem uD.at{w:World}{a:Option Addr}{n c:Nat}{l:List Pr}(h:uD w a n c l)(k:Nat)(hk:k<n):∃ b off,a=some ⟨b,off,none⟩/\w.cell? ⟨b,off+k*2,none⟩=some (.string ⟨(l.getD k ([],[])).1.toArray⟩)/\w.cell? ⟨b,off+k*2+1,none⟩=some (.string ⟨(l.getD k ([],[])).2.toArray⟩):=by
 have hl:=h.len;have hk':k<l.length:=by omega
 have e:l.getD k ([],[])=l[k]:=by simp[List.getD,kM hk']
 rw[e];have h0:=yx sw l k 0 hk' (by omega);have h1:=yx sw l k 1 hk' (by omega);simp only[aR,List.getElem?_cons_zero,List.getElem?_cons_succ,R4] at h0 h1;obtain⟨b,off,ha,hc0⟩:=h.2.2.2.1.at _ _ h0;obtain⟨b',off',ha',hc1⟩:=h.2.2.2.1.at _ _ h1;rw[ha] at ha';simp only[Ba,Addr.mk.injEq,and_true] at ha';obtain⟨rfl,rfl⟩:=ha';exact⟨b,off,ha,hc0,by rw[Zu];exact hc1⟩
theorem sK(l:List Pr):∀ u∈l.flatMap aR,u.oneCell'=true:=by
 intro u hu;obtain⟨p,_,hp⟩:=List.mem_flatMap.1 hu;simp only[aR,rD,xS,or_false] at hp;rcases hp with rfl|rfl <;> rfl
theorem EF:(qp0.info? 160).map (fun i=>(i.zero,i.size,i.bytes))=some (some (.agg #[.string ⟨#[]⟩,.string ⟨#[]⟩]),2,32):=by kernel_rfl
def ad6(w:World)(l:List Pr)(e:Ending)(w':World):Prop :=∃ a n c,e=.returned (.slice a n c)/\w'.ownsRow w.heap.size 160 2 (.slice a n c) n (l.flatMap aR)/\Below w.heap.size w w'
theorem mR{w:World}{base:Nat}{e:TypeId}{a:Option Addr}{n c:Nat}{l:List Pr}(h:w.ownsRow base e 2 (.slice a n c) n (l.flatMap aR)):uD w a n c l:=rP h
section
theorem RF(p:Pr)(w:World)(ht:lV w)(hk:p.1.length<=140737488351232)(hv:p.2.length<=140737488351232):Calls qp0 131 #[.agg #[.string ⟨p.1.toArray⟩,.string ⟨p.2.toArray⟩]] w fun e w'=>e=.returned (.int .i64 (jO p:Int))/\Below w.heap.size w w':=by
 obtain⟨d,h1,h2,h3⟩:=vQ p (by unfold iN;omega);rw[h3];exact V9 p.1 p.2 d w ht hk hv h2 h1
theorem Nz(p:Pr)(hk:p.1.length<=140737488351232)(hv:p.2.length<=140737488351232):jO p<=300000000000000:=by
 obtain⟨d,h1,h2,h3⟩:=vQ p (by unfold iN;omega);rw[h3];unfold iN;omega
theorem akZ(p:Pr):3<=jO p:=by unfold jO iN;omega
section
variable {P:Program}{ops:Array Oper}{o:Oper}{a:Act}{w:World}{K:Act->World->Prop}{Q:Exit->Act->World->Prop}{E:Prop}
end
end
namespace Plain
def span(n:Int):Int:=if n<=0 then 0 else(n - 1) / 512+1
def pad(n:Int):Int:=if n<=0 then 0 else(-n)%512
end Plain
theorem KW(n:Int)(h1:n<9223372036854775808)(w:World):Calls qp0 117 #[.int .i64 n] w fun e w'=>e=.returned (.int .i64 (Plain.span n))/\w=w':=by
 by_cases h0:n<=0
 .have hs:Plain.span n=0:=by simp[Plain.span,h0]
  rw[hs];clear hs;go_enter func117,ntmps117;go_wp2
  go_ret;exact⟨rfl,rfl⟩
 .have hs:Plain.span n=(n - 1) / 512+1:=by simp[Plain.span,h0]
  rw[hs];clear hs;go_enter func117,ntmps117;go_wp2
  all_goals
   go_ret;exact⟨aax (by omega),rfl⟩
namespace Plain
def valid(sec nano:Int):Bool:=decide (0<=nano)&&decide (nano<1000000000)&&decide (-1099511627777<=sec)&&decide (sec<=1099511627776)&&!(decide (sec=-1099511627777)&&decide (nano=0))
end Plain
theorem TQ(s n:Int)(w:World):Calls qp0 54 #[.agg #[.int .i64 s,.int .i64 n]] w fun e w'=>e=.returned (.bool (Plain.valid s n))/\Below w.heap.size w w':=by
 generalize hr:Plain.valid s n=r;have HR:=ah hr;clear hr;go_enter func54,ntmps54;go_wp2
 all_goals
  go_ret;refine⟨yw ?_,(Below.refl _ _).alloc (aY _) _⟩;rw[<-HR.out,qbG]
  try simp only[beq_iff_eq,beq_eq_false_iff_ne,ne_eq] at *
  simp[Plain.valid]
  try omega
section
namespace Plain
def txt(lo:Int)(s:List UInt8):Bool:=!decide ((s.length:Int)<lo)&&!decide (4096<(s.length:Int))&&!decide (0<=Lib.indexByte s 0)
end Plain
abbrev alJ(k:Int)(name link:List UInt8)(mode uid gid:Int)(user group:List UInt8)(sec nano:Int)(a:Option Addr)(n c:Nat):Value :=.agg #[.int .i64 k,.string ⟨name.toArray⟩,.string ⟨link.toArray⟩,.int .i64 mode,.int .i64 uid,.int .i64 gid,.string ⟨user.toArray⟩,.string ⟨group.toArray⟩,.int .i64 sec,.int .i64 nano,.slice a n c]
namespace Plain
section
variable {k:Int}{T1 T2 T3 T4 T5 T6 r:Bool}{link:List UInt8}{mode uid gid:Int}{n:Nat}
variable {L O:Bool}
end
end Plain
end
def alE(w:World)(k:Int)(name link:List UInt8)(mode uid gid:Int)(user group:List UInt8)(sec nano:Int)(x:List UInt8)(e:Ending)(w':World):Prop :=∃ a n c,e=.returned (alJ k name link mode uid gid user group sec nano a n c)/\w'.ownsRow w.heap.size 5 1 (.slice a n c) n (x.map jJ)/\Below w.heap.size w w'
theorem akS(k:Int)(name link:List UInt8)(mode uid gid:Int)(user group:List UInt8)(sec nano:Int)(a:Option Addr)(n c:Nat)(x:List UInt8)(w:World)(h:Bs w a n c x)(hn:n<=140737488355328):Calls qp0 48 #[alJ k name link mode uid gid user group sec nano a n c] w (alE w k name link mode uid gid user group sec nano x):=by
 go_enter func48,ntmps48;go_wp2_with fail
 refine(akR _ _ _ x _ (by exact Keeps.bs (Keeps.trans (Keeps.alloc w _) (Keeps.alloc _ _)) h) hn).mono ?_;rintro e w1 ⟨a1,n1,c1,rfl,ho1,hb1⟩;have hz:w.heap.size+1<w1.heap.size:=by have:=hb1.size;simp at this;omega
 have alO:∀ v:Value,((#[.int .i64 k,.string ⟨name.toArray⟩,.string ⟨link.toArray⟩,.int .i64 mode,.int .i64 uid,.int .i64 gid,.string ⟨user.toArray⟩,.string ⟨group.toArray⟩,.int .i64 sec,.int .i64 nano,.slice a n c]:Array Value).setIfInBounds 10 v) =
  #[.int .i64 k,.string ⟨name.toArray⟩,.string ⟨link.toArray⟩,.int .i64 mode,.int .i64 uid,.int .i64 gid,.string ⟨user.toArray⟩,.string ⟨group.toArray⟩,.int .i64 sec,.int .i64 nano,v]:=fun v=>rfl
 have r0:w1.heap[w.heap.size]? = some (.cells #[.int .i64 k,.string ⟨name.toArray⟩,.string ⟨link.toArray⟩,.int .i64 mode,.int .i64 uid,.int .i64 gid,.string ⟨user.toArray⟩,.string ⟨group.toArray⟩,.int .i64 sec,.int .i64 nano,.slice a n c] 42 (0,0)):=by rw[hb1.block _ (by simp <;> omega),heap_alloc2_old]
 have r1:=heap_setCell_same w1 w.heap.size 10 _ 42 (.slice a1 n1 c1) r0;rw[alO] at r1;obtain⟨z,hz1,hz2⟩:∃ z:Array Value,w1.heap[w.heap.size+1]? = some (.cells z 42 (0,0))/\z.size=11:=⟨_,by rw[hb1.block _ (by simp),heap_alloc2_new],rfl⟩
 have r2:(w1.setCell ⟨w.heap.size,10,none⟩ (.slice a1 n1 c1)).heap[w.heap.size+1]? = some (.cells z 42 (0,0)):=by rw[heap_setCell_other _ _ _ _ (by simp),hz1]
 have ac2:w1.cell? ⟨w.heap.size,10,none⟩=some (.slice a n c):=by rw[cell_of_row _ _ _ _ _ _ r0];rfl
 have RJ:w1.frozen? ⟨w.heap.size,10,none⟩=false:=frozen_of_row _ _ _ _ _ r0;have hone:∀ u∈(#[.int .i64 k,.string ⟨name.toArray⟩,.string ⟨link.toArray⟩,.int .i64 mode,.int .i64 uid,.int .i64 gid,.string ⟨user.toArray⟩,.string ⟨group.toArray⟩,.int .i64 sec,.int .i64 nano,.slice a1 n1 c1]:Array Value).toList,u.oneCell'=true:=by simp[Value.oneCell']
 have R1:=ah r1;have R2:=ah r2;have HO:=ah hone;have HZ2:=ah hz2;clear r0 r1 r2 alO hz1 hone hz2;go_wp2_with (first|(with_reducible refine wpList_load_row rfl 42 _ rfl w.heap.size rfl 42 _ (0,0) _ R1.out underlying42 rfl (by kernel_rfl) ?_)|((with_reducible refine wpList_store_row rfl 42 _ _ rfl (w.heap.size+1) rfl _ rfl z 42 R2.out ?_ (by kernel_rfl) HO.out ?_);· exact HZ2.out))
 refine bodyPost_ret (results_cell_row rfl _ _ (w.heap.size+1) 42 _ (0,0) _ rfl (setRow_heap _ _ _ _ _ _ R2.out) underlying42 rfl (by kernel_rfl)) rfl ⟨a1,n1,c1,rfl,?_,?_⟩
 .refine akX (VQ ho1 (fun k h1 h2=>?_)) (by simp <;> omega);rw[setRow_other _ _ _ _ (by simp at h1;omega),heap_setCell_other _ _ _ _ (by simp at h1 ⊢;omega)]
 .exact Below.setRow ((Below.trans (((Below.refl _ _).alloc (aY _) _).alloc (by simp) _) (hb1.mono (by simp <;> omega))).setCell (by simp) _) (by omega) _
structure En where
 kind:Int
 name:List UInt8
 link:List UInt8
 mode:Int
 uid:Int
 gid:Int
 user:List UInt8
 group:List UInt8
 sec:Int
 nano:Int
 data:List UInt8
def kr:List UInt8:=[112,97,116,104]
def mF:List UInt8:=[108,105,110,107,112,97,116,104]
def J7:List UInt8:=[117,105,100]
def LY:List UInt8:=[103,105,100]
def lZ:List UInt8:=[117,110,97,109,101]
def lX:List UInt8:=[103,110,97,109,101]
def qO:List UInt8:=[109,116,105,109,101]
namespace Plain
def laid(h:Hd)(d:List UInt8):List UInt8:=(make {h with size:=d.length}).1++d++List.replicate (Plain.pad d.length).toNat 0
end Plain
def kK:List UInt8:=[48,49,50,51,52,53,54,55,56,57]
def iO(l:List UInt8):List UInt8:=(l.reverse.dropWhile bg).reverse
theorem RQ(t:List UInt8)(c:UInt8)(h:bg c=false):iO (t++[c])=t++[c]:=by simp[iO,h]
theorem Ub(t:List UInt8)(c:UInt8)(h:bg c=true):iO (t++[c])=iO t:=by simp[iO,h]
theorem Sv(l:List UInt8):(iO l).length<=l.length:=by
 unfold iO;have:=(qbC bg (l:=l.reverse)).length_le;simpa using this
def PO(w:World)(b:Nat):Prop:=∀ x:UInt8,w.cell? ⟨b,x.toNat,none⟩=some (.bool (bg x))
theorem Je(x:UInt8):kK.contains x=bg x:=by
 have key:∀ n,n<256->kK.contains (UInt8.ofNat n)=bg (UInt8.ofNat n):=by decide
 have:=key x.toNat x.toNat_lt
 rwa [UInt8.ofNat_toNat] at this
theorem Ir(l:List UInt8)(b:Nat)(w:World)(hl:l.length<=140737488355328)(hg:PO w b):Calls qp0 165 #[.string ⟨l.toArray⟩,.pointer (some ⟨b,0,none⟩)] w fun e w'=>e=.returned (.string ⟨(iO l).toArray⟩)/\w'=w:=by
 generalize hr:iO l=R;have HR:=ah hr;clear hr;have HG:=ah hg;clear hg;go_enter func165,ntmps165;go_wp2
 go_loop [0] (fun t=>∃ s:List UInt8,t=.string ⟨s.toArray⟩/\s.length<=140737488355328/\Hid (iO s=R)) (fun t=>match t with|.string x=>x.size|_=>0)
 case atStart=>exact⟨l,rfl,hl,HR⟩
 case round =>
  obtain⟨s,rfl,hs,ht⟩:=hrel;by_cases h0:s=[]
  .subst h0;obtain rfl:R=[]:=by rw[<-ht.out];rfl
   go_wp2
   go_ret;exact⟨rfl,rfl⟩
  .obtain⟨t,c,rfl⟩:∃ t c,s=t++[c]:=⟨s.dropLast,s.getLast h0,(qbS h0).symm⟩
   have hx:=oO (t++[c]) t.length (by simp);have hgd:(t++[c]).getD t.length 0=c:=by simp[List.getD]
   rw[hgd] at hx;have hlen:(t++[c]).length=t.length+1:=by simp
   have hext:(⟨(t++[c]).toArray⟩:ByteArray).extract 0 t.length=⟨t.toArray⟩:=by
    apply qb2;simp[qbB]
   have hst:t.length<=140737488355328:=by omega
   have Vi:=ah hext
   cases qc:bg c with
   | false =>
    have hcon:=Tryz.asciiSet_contains b c (bg c) w (HG.out c);rw[qc] at hcon;have HC:=ah hcon;have hRR:t++[c]=R:=by rw[<-RQ t c qc];exact ht.out
    have HRR:=ah hRR;clear hcon hRR hgd hext h0 qc;go_wp2_with (go_at_call 195;refine(HC.out).mono ?_;rintro e w1 ⟨rfl,hw⟩;obtain rfl:=hw.symm)
    go_ret;exact⟨by rw[<-HRR.out];rfl,rfl⟩
   | true =>
    have hcon:=Tryz.asciiSet_contains b c (bg c) w (HG.out c);rw[qc] at hcon;have HC:=ah hcon;have hRR:iO t=R:=by rw[<-Ub t c qc];exact ht.out
    have HRR:=ah hRR;clear hcon hRR hgd hext h0 qc;go_wp2_with (go_at_call 195;refine(HC.out).mono ?_;rintro e w1 ⟨rfl,hw⟩;obtain rfl:=hw.symm)
    rw[Vi.out];exact⟨⟨t,rfl,hst,HRR⟩,by simp[ByteArray.size]⟩
theorem Jo(l:List UInt8)(b:Nat)(w:World)(hl:l.length<=140737488355328)(hg:PO w b):Calls qp0 179 #[.string ⟨l.toArray⟩,.pointer (some ⟨b,0,none⟩)] w fun e w'=>e=.returned (.string ⟨(l.dropWhile bg).toArray⟩)/\w'=w:=by
 generalize hr:l.dropWhile bg=R;have HR:=ah hr;clear hr;have HG:=ah hg;clear hg;go_enter func179,ntmps179;go_wp2
 go_loop [0] (fun t=>∃ s:List UInt8,t=.string ⟨s.toArray⟩/\s.length<=140737488355328/\Hid (s.dropWhile bg=R)) (fun t=>match t with|.string x=>x.size|_=>0)
 case atStart=>exact⟨l,rfl,hl,HR⟩
 case round =>
  obtain⟨s,rfl,hs,ht⟩:=hrel
  cases s with
  | nil =>
   obtain rfl:R=[]:=by rw[<-ht.out];rfl
   go_wp2
   go_ret;exact⟨rfl,rfl⟩
  | cons c t =>
   have hx:=oO (c::t) 0 (by simp);have hgd:(c::t).getD 0 0=c:=rfl;rw[hgd] at hx;have hlen:(c::t).length=t.length+1:=rfl;have hext:(⟨(c::t).toArray⟩:ByteArray).extract 1 (t.length+1)=⟨t.toArray⟩:=by
    apply qb2;simp[qbB]
   have hst:t.length<=140737488355328:=by omega
   have Vi:=ah hext
   cases qc:bg c with
   | false =>
    have hcon:=Tryz.asciiSet_contains b c (bg c) w (HG.out c);rw[qc] at hcon;have HC:=ah hcon;have hRR:c::t=R:=by rw[<-ht.out,qby,qc];rfl
    have HRR:=ah hRR;clear hcon hRR hgd hext qc;go_wp2_with (go_at_call 195;refine(HC.out).mono ?_;rintro e w1 ⟨rfl,hw⟩;obtain rfl:=hw.symm)
    go_ret;exact⟨by rw[<-HRR.out];rfl,rfl⟩
   | true =>
    have hcon:=Tryz.asciiSet_contains b c (bg c) w (HG.out c);rw[qc] at hcon;have HC:=ah hcon;have hRR:t.dropWhile bg=R:=by rw[<-ht.out,qby,qc];rfl
    have HRR:=ah hRR;clear hcon hRR hgd hext qc;go_wp2_with (go_at_call 195;refine(HC.out).mono ?_;rintro e w1 ⟨rfl,hw⟩;obtain rfl:=hw.symm)
    rw[Vi.out];exact⟨⟨t,rfl,hst,HRR⟩,by simp[ByteArray.size]⟩
theorem J2:∀ w,(zeroValue 223).run qp0 w=.ok (.agg (Array.replicate 256 (.bool false))) w:=fun w=>by kernel_rfl
theorem Z4:(qp0.info? 223).map (·.size)=some (Lib.setCells kK).size:=by rw[Lib.setCells_size];kernel_rfl
theorem aby:(qp0.info? 223).bind (·.zero)=some (.agg (Array.replicate 256 (.bool false))):=by kernel_rfl
theorem acO:∀ u∈(Lib.setCells kK).toList,u.oneCell'=true:=by
 intro u hu;have h:=Lib.setCells_one kK;generalize Lib.setCells kK=A at *
 rw[YF] at h;obtain⟨i,hi,rfl⟩:=qbz hu;exact h i (by simpa using hi)
theorem Dq(w1:World):PO (w1.alloc (.cells (Lib.setCells kK) 223)) w1.heap.size:=fun x=>by
 rw[World.cell?_alloc_new,Lib.setCells_at,Je]
theorem L9(l:List UInt8)(w:World)(hl:l.length<=140737488355328):Calls qp0 224 #[.string ⟨l.toArray⟩,.string ⟨kK.toArray⟩] w fun e w'=>e=.returned (.string ⟨((iO l).dropWhile bg).toArray⟩)/\Below w.heap.size w w':=by
 by_cases h0:l=[]
 .subst h0;go_enter func224,ntmps224;go_wp2
  go_ret;exact⟨rfl,Below.refl _ _⟩
 .have Zw:l.isEmpty=false:=by simpa using h0
  have hasc:∀ (j:Nat) b,kK[j]? = some b->b.toNat<128:=by
   have key:∀ b∈kK,b.toNat<128:=by decide
   exact fun j b hj=>key b (qbb hj)
  have HM:=ah (Tryz.strings_makeASCIISet J2 ⟨kK.toArray⟩ w (by decide) hasc);have hl2:(iO l).length<=140737488355328:=tT (Sv l) hl;generalize hR:iO l=R at hl2 ⊢;have HR:=ah hR;have HZ:=ah aby;have qj:=ah Z4;have HO:Hid (∀ u∈(Lib.setCells kK).toList,u.oneCell'=true):=ah (acO);go_enter func224,ntmps224;clear hR;go_wp2_with (first|(go_at_call 164;refine(HM.out).mono ?_;rintro e w1 ⟨rfl,hw⟩;have HW:=ah hw;clear hw)|(with_reducible refine bV rfl _ rfl (Array.replicate 256 (.bool false)) HZ.out ?_)|((with_reducible refine kC rfl _ _ _ rfl _ rfl (Lib.setCells kK) rfl ?_ (by rw[Lib.setCells_size,Array.size_replicate]) qj.out HO.out ?_);· simp)|(go_at_call 165;refine(Ir l _ _ hl (by exact Dq w1)).mono ?_;rintro e w3 ⟨rfl,hw⟩;obtain rfl:=hw.symm;rw[HR.out])|(go_at_call 179;refine(Jo R _ _ hl2 (by exact Dq w1)).mono ?_;rintro e w3 ⟨rfl,hw⟩;obtain rfl:=hw.symm))
  go_ret;refine⟨rfl,?_⟩;rw[HW.out];exact((Below.refl _ _).alloc (aY _) _).alloc (by simp) _
theorem dropWhile_nil(p:UInt8->Bool):∀ l:List UInt8,l.dropWhile p=[]↔∀ x∈l,p x=true
 | []=>by simp
 | c::l=>by
  rw[qby]
  cases h:p c with
  | true=>simp only[if_true,rD,forall_eq_or_imp,h,true_and];exact dropWhile_nil p l
  | false=>simp[h]
theorem rU(p:UInt8->Bool):∀ (l:List UInt8)(c:UInt8)(t:List UInt8),l.dropWhile p=c::t->p c=false
 | [],c,t,h=>by cases h
 | a::l,c,t,h=>by
  rw[qby] at h
  cases ha:p a with
  | true=>rw[ha] at h;exact rU p l c t h
  | false=>rw[ha] at h;cases h;exact ha
theorem SA(l:List UInt8)(h:l.all bg=true):iO l=[]:=by
 unfold iO;have:l.reverse.dropWhile bg=[]:=by
  rw[dropWhile_nil];intro x hx;exact Ej.1 h x (by simpa using hx)
 rw[this];rfl
theorem T9(l:List UInt8)(h:iO l=[]):l.all bg=true:=by
 unfold iO at h;have h:l.reverse.dropWhile bg=[]:=by simpa using h
 rw[dropWhile_nil] at h;rw[Ej];exact fun x hx=>h x (by simpa using hx)
theorem Xy(l:List UInt8):(iO l).dropWhile bg=[]↔l.all bg=true:=by
 constructor
 .intro h;by_cases h0:iO l=[]
  .exact T9 l h0
  .
   exfalso;unfold iO at h h0;have hne:l.reverse.dropWhile bg≠[]:=by simpa using h0
   rw[dropWhile_nil] at h
   cases hx:l.reverse.dropWhile bg with
   | nil=>exact hne hx
   | cons c t =>
    have hc:bg c=true:=h c (by rw[hx];simp);have:=rU bg _ c t hx;rw[hc] at this;cases this
 .intro h;rw[SA l h];rfl
def Plain.lY(l:List UInt8):Bool:=!l.isEmpty&&l.all bg
theorem BR(l:List UInt8)(w:World)(hl:l.length<=140737488355328):Calls qp0 222 #[.string ⟨l.toArray⟩] w fun e w'=>e=.returned (.bool (Plain.lY l))/\Below w.heap.size w w':=by
 by_cases h0:l=[]
 .subst h0;go_enter func222,ntmps222;go_wp2
  go_ret;exact⟨rfl,Below.refl _ _⟩
 .have Zw:l.isEmpty=false:=by simpa using h0
  have HT:=ah (L9 l w hl);have ht:=Xy l;have hr:Plain.lY l=l.all bg:=by simp[Plain.lY,Zw]
  rw[hr];generalize (iO l).dropWhile bg=R at HT ht;have hb:decide (R=[])=l.all bg:=by
   rw[qbG];simpa using ht
  rw[<-hb];clear hb hr ht;go_enter func222,ntmps222;go_wp2_with (go_at_call 224;refine(HT.out).mono ?_;rintro e w1 ⟨rfl,hw⟩;have HW:=ah hw;clear hw)
  go_ret;refine⟨?_,HW.out⟩
  cases R <;> rfl
namespace Plain
def iU(part:List UInt8):List UInt8:=(part++List.replicate 9 48).take 9
def vN(minus:Bool)(sec nano:Int)(more:Bool):Int×Int :=
 if minus=true then(if 0<(if more=true then nano+1 else nano) then(-sec - 1,1000000000-(if more=true then nano+1 else nano)) else(-sec,0)) else(sec,nano)
def vY(part:List UInt8):Bool:=decide (9<part.length)&&!(Lib.trimB (part.drop 9) 48).isEmpty
def jv(l:List UInt8):(Int×Int)×Int :=
 if 64<l.length then((0,0),21) else
 if ((Lib.cut (Lib.trimPrefix l [45]) [46]).2.2&&!lY (Lib.cut (Lib.trimPrefix l [45]) [46]).2.1)||!lY (Lib.cut (Lib.trimPrefix l [45]) [46]).1 then((0,0),20) else
 if (decimal (Lib.cut (Lib.trimPrefix l [45]) [46]).1).2=10 then((0,0),20) else
 if (decimal (Lib.cut (Lib.trimPrefix l [45]) [46]).1).2≠0\/1099511627776<(decimal (Lib.cut (Lib.trimPrefix l [45]) [46]).1).1 then((0,0),11) else
 let t:=vN (Lib.hasPrefix l [45]) (decimal (Lib.cut (Lib.trimPrefix l [45]) [46]).1).1 (bD 0 (iU (Lib.cut (Lib.trimPrefix l [45]) [46]).2.1)) (vY (Lib.cut (Lib.trimPrefix l [45]) [46]).2.1)
 if valid t.1 t.2=true then(t,0) else((0,0),11)
theorem vS(part:List UInt8):(iU part).length=9:=by simp[iU]
theorem Dh(part:List UInt8)(h:part.all bg=true):(iU part).all bg=true:=by
 rw[Ej] at h ⊢;intro x hx;unfold iU at hx;rcases UY.1 (qbY hx) with hx|hx
 .exact h x hx
 .rw[List.mem_replicate] at hx;rw[hx.2];rfl
theorem zS:∀ (l:List UInt8)(acc:Nat),l.all bg=true->Lib.decFrom acc l=some (bD acc l)
 | [],acc,_=>rfl
 | c::l,acc,h=>by
  rw[JJ,fE,jy] at h;rw[Lib.decFrom,Lib.digitVal,if_pos h.1,lJ];exact zS l _ h.2
theorem Xv(l:List UInt8)(hne:l≠[])(h:l.all bg=true):Lib.atoi l=some (bD 0 l:Nat):=by
 cases l with
 | nil=>exact absurd rfl hne
 | cons c l =>
  have hd:=h;rw[JJ,fE,jy] at hd;have h1:(c==45)=false:=by
   rw[beq_eq_false_iff_ne];rintro rfl;have:=hd.1.1;revert this;decide
  have h2:(c==43)=false:=by
   rw[beq_eq_false_iff_ne];rintro rfl;have:=hd.1.1;revert this;decide
  simp only[Lib.atoi,h1,h2,jI,if_false,Lib.decNat,List.isEmpty_cons,zS (c::l) 0 h,MK];rfl
theorem FX:∀ (l:List UInt8)(acc:Nat),l.all bg=true->bD acc l<(acc+1)*10^l.length
 | [],acc,_=>by rw[qF];simp
 | c::l,acc,h=>by
  rw[JJ,fE,jy] at h;rw[lJ];have:=FX l (acc*10+(c.toNat - 48)) h.2;have h2:acc*10+(c.toNat - 48)+1<=(acc+1)*10:=by omega
  calc bD (acc*10+(c.toNat - 48)) l<(acc*10+(c.toNat - 48)+1)*10^l.length:=this
   _<=((acc+1)*10)*10^l.length:=qbX _ h2
   _=(acc+1)*10^(c::l).length:=by rw[oH,qbN,Nat.mul_assoc,Nat.mul_comm 10]
theorem aaJ(part:List UInt8)(h:part.all bg=true):bD 0 (iU part)<1000000000:=by
 have:=FX (iU part) 0 (Dh part h);rw[vS] at this;exact this
theorem OP{l:List UInt8}(h:lY l=true):l.all bg=true:=by
 unfold lY at h;rw[fE] at h;exact h.2
def latest(l:List Pr)(key:List UInt8):Option (List UInt8):=l.foldl (fun o p=>if p.1==key then some p.2 else o) none
theorem ou(l:List Pr)(p:Pr)(key:List UInt8):latest (l++[p]) key=if p.1==key then some p.2 else latest l key:=by
 simp[latest,qbd]
end Plain
def En.none:En:=⟨0,[],[],0,0,0,[],[],0,0,[]⟩
def yE:List UInt8:=[115,105,122,101]
def wP:List UInt8:=[71,78,85,46,115,112,97,114,115,101,46]
namespace Plain
def found(g l:List Pr)(k:List UInt8):List UInt8×Bool :=
 match latest l k with
 | some v=>(v,!v.isEmpty)
 | none=>((latest g k).getD [],false)
def lG(g l:List Pr)(k long plain:List UInt8):List UInt8 :=
 if (found g l k).2=true then(found g l k).1 else if long≠[] then long else if (found g l k).1≠[] then(found g l k).1 else plain
def sparse(l:List Pr):Bool:=l.any fun p=>Lib.hasPrefix p.1 wP
def xq(g l:List Pr)(k:List UInt8)(plain most:Int):Int×Bool :=
 if (found g l k).1=[] then(plain,true) else((decimal (found g l k).1).1,decide ((decimal (found g l k).1).2=0)&&decide ((decimal (found g l k).1).1<=most))
def QH(g l:List Pr)(mt:Int):(Int×Int)×Int:=if (found g l qO).1=[] then((mt,0),0) else jv (found g l qO).1
def oo(ty:UInt8)(name:List UInt8):Int:=if ty=48 then(if Lib.hasSuffix name [47]=true then 2 else 1) else if ty=49 then 4 else if ty=50 then 3 else if ty=53 then 2 else 5
def gG(h:Hd)(g l:List Pr)(ln lr:List UInt8):En×Int×Int :=
 if h.ty<48\/54<h.ty then(En.none,0,73) else
 if sparse g||sparse l then(En.none,0,61) else
 if (xq g l yE h.size 9223372036854775807).2&&(xq g l J7 h.uid 2147483647).2&&(xq g l LY h.gid 2147483647).2 then
  if (QH g l h.mtime).2≠0 then(En.none,0,60) else
  ({
   kind:=oo h.ty (lG g l kr ln h.name),name:=lG g l kr ln h.name,link:=if h.ty=49\/h.ty=50 then lG g l mF lr h.link else[],mode:=bits .and .i64 h.mode 4095,
   uid:=(xq g l J7 h.uid 2147483647).1,gid:=(xq g l LY h.gid 2147483647).1,user:=lG g l lZ [] h.user,group:=lG g l lX [] h.group,
   sec:=(QH g l h.mtime).1.1,nano:=(QH g l h.mtime).1.2,data:=[]},if h.ty=48 then(xq g l yE h.size 9223372036854775807).1 else 0,0)
 else(En.none,0,60)
abbrev Lv:=List UInt8->Option (List UInt8)
def yc(m:Lv)(p:Pr):Lv:=fun y=>if y=p.1 then(if p.2=[] then Option.none else some p.2) else m y
def vw(m:Lv)(p:Pr):Lv:=fun y=>if p.2=[]/\y=p.1 then Option.none else m y
def lays(m:Lv)(l:List Pr):Lv:=l.foldl yc m
def hides(m:Lv)(l:List Pr):Lv:=l.foldl vw m
def JN:Lv:=fun _=>Option.none
theorem Gu(m:Lv)(l:List Pr)(p:Pr):lays m (l++[p])=yc (lays m l) p:=by simp[lays,qbd]
theorem vF(m:Lv)(l:List Pr)(p:Pr):hides m (l++[p])=vw (hides m l) p:=by simp[hides,qbd]
theorem yH(m:Lv)(l:List Pr)(k:Nat)(h:k<l.length):lays m (l.take (k+1))=yc (lays m (l.take k)) (l.getD k ([],[])):=by
 rw[Nh h,Gu];simp[List.getD,kM h]
theorem Dp(m:Lv)(l:List Pr)(k:Nat)(h:k<l.length):hides m (l.take (k+1))=vw (hides m (l.take k)) (l.getD k ([],[])):=by
 rw[Nh h,vF];simp[List.getD,kM h]
def full(v:List UInt8):Option (List UInt8):=if v=[] then Option.none else some v
theorem yA{α:Type}{C:List α->Prop}(h0:C [])(h1:∀ l x,C l->C (l++[x]))(l:List α):C l:=by
 have:∀ m:List α,C m.reverse:=by
  intro m
  induction m with
  | nil=>exact h0
  | cons x m ih=>rw[List.reverse_cons];exact h1 _ _ ih
 have h:=this l.reverse
 rwa [qcs] at h
theorem Mi(m:Lv)(l:List Pr)(k:List UInt8):lays m l k=(match latest l k with|some v=>full v|Option.none=>m k):=by
 induction l using yA with
 | h0=>rfl
 | h1 l p ih =>
  rw[Gu,ou];unfold yc;by_cases hk:k=p.1
  .subst hk;simp[full]
  .have:(p.1==k)=false:=by rw[beq_eq_false_iff_ne];exact fun e=>hk e.symm
   rw[if_neg hk,this,ih];rfl
theorem Oi(m:Lv)(l:List Pr)(k:List UInt8)(h:latest l k=Option.none):hides m l k=m k:=by
 induction l using yA with
 | h0=>rfl
 | h1 l p ih =>
  rw[ou] at h;by_cases hk:(p.1==k)=true
  .rw[if_pos hk] at h;cases h
  .rw[if_neg hk] at h;rw[vF];unfold vw;rw[if_neg,ih h];rintro⟨_,e⟩;exact hk (by rw[e];exact beq_self_eq_true _)
theorem Tp(m:Lv)(l:List Pr)(k:List UInt8)(h:latest l k=some []):hides m l k=Option.none:=by
 induction l using yA with
 | h0=>cases h
 | h1 l p ih =>
  rw[ou] at h;rw[vF];unfold vw;by_cases hk:(p.1==k)=true
  .rw[if_pos hk] at h;rw[if_pos ⟨by simpa using h,(beq_iff_eq.1 hk).symm⟩]
  .rw[if_neg hk] at h;split
   .rfl
   .exact ih h
def JF(m0 m1 m2 m3:Lv)(k:List UInt8):Option (List UInt8) :=
 match m3 k with
 | some v=>some v
 | Option.none=>match m2 k with
  | some v=>some v
  | Option.none=>match m1 k with
   | some v=>some v
   | Option.none=>m0 k
theorem Ea(m0 m2:Lv)(g l:List Pr)(k:List UInt8):JF m0 (hides (lays JN g) l) m2 (lays JN l) k =
  if (found g l k).2=true then some (found g l k).1 else match m2 k with|some v=>some v|Option.none=>if (found g l k).1≠[] then some (found g l k).1 else m0 k:=by
 unfold JF found;rw[Mi]
 cases hl:latest l k with
 | some v =>
  by_cases hv:v=[]
  .subst hv;simp only[full,if_pos,Tp _ _ _ hl,List.isEmpty_nil,qb1,jI,if_false,ne_eq,not_true]
  .have:v.isEmpty=false:=by simpa using hv
   simp only[full,if_neg hv,this,qb9,if_true]
 | none =>
  simp only[JN,Oi _ _ _ hl,Mi,jI,if_false]
  cases m2 k with
  | some v=>rfl
  | none =>
   cases hg:latest g k with
   | none=>simp
   | some v =>
    by_cases hv:v=[]
    .subst hv;simp[full]
    .simp[full,hv]
def adw(h:Hd):Lv:=lays JN [(kr,h.name),(mF,h.link),(lZ,h.user),(lX,h.group)]
def ad3(ln lr:List UInt8):Lv:=lays JN [(kr,ln),(mF,lr)]
def jB(h:Hd)(g l:List Pr)(ln lr k:List UInt8):Option (List UInt8):=JF (adw h) (hides (lays JN g) l) (ad3 ln lr) (lays JN l) k
theorem xA(g l:List Pr)(k long plain:List UInt8)(m0 m2:Lv)(h0:m0 k=full plain)(h2:m2 k=full long):(JF m0 (hides (lays JN g) l) m2 (lays JN l) k).getD []=lG g l k long plain:=by
 rw[Ea,h0,h2];unfold lG full;generalize found g l k=r;obtain⟨v,b⟩:=r
 cases b with
 | true=>rfl
 | false =>
  simp only[jI,if_false]
  cases long with
  | cons c t=>simp
  | nil =>
   cases v with
   | cons c t=>simp
   | nil=>cases plain <;> simp
theorem Pf(h:Hd)(g l:List Pr)(ln lr:List UInt8):(jB h g l ln lr kr).getD []=lG g l kr ln h.name :=xA g l kr ln h.name _ _ rfl rfl
theorem Og(h:Hd)(g l:List Pr)(ln lr:List UInt8):(jB h g l ln lr mF).getD []=lG g l mF lr h.link :=xA g l mF lr h.link _ _ rfl rfl
theorem Lc(h:Hd)(g l:List Pr)(ln lr:List UInt8):(jB h g l ln lr lZ).getD []=lG g l lZ [] h.user :=xA g l lZ [] h.user _ _ rfl rfl
theorem JZ(h:Hd)(g l:List Pr)(ln lr:List UInt8):(jB h g l ln lr lX).getD []=lG g l lX [] h.group :=xA g l lX [] h.group _ _ rfl rfl
theorem sW(h:Hd)(g l:List Pr)(ln lr k:List UInt8)(h0:adw h k=Option.none)(h2:ad3 ln lr k=Option.none):jB h g l ln lr k=full (found g l k).1:=by
 unfold jB;rw[Ea,h0,h2];unfold full found
 cases hl:latest l k with
 | some v=>cases v <;> rfl
 | none =>
  simp only[jI,if_false,ne_eq];generalize (latest g k).getD []=v
  cases v <;> simp
theorem OC(h:Hd)(g l:List Pr)(ln lr:List UInt8):jB h g l ln lr yE=full (found g l yE).1:=sW h g l ln lr yE rfl rfl
theorem SN(h:Hd)(g l:List Pr)(ln lr:List UInt8):jB h g l ln lr J7=full (found g l J7).1:=sW h g l ln lr J7 rfl rfl
theorem Uu(h:Hd)(g l:List Pr)(ln lr:List UInt8):jB h g l ln lr LY=full (found g l LY).1:=sW h g l ln lr LY rfl rfl
theorem Li(h:Hd)(g l:List Pr)(ln lr:List UInt8):jB h g l ln lr qO=full (found g l qO).1:=sW h g l ln lr qO rfl rfl
end Plain
structure kG where
 name:Int
 iP:Int
structure bW where
 glob:List Pr
 loc:List Pr
 zk:Int
 ln:List UInt8
 lr:List UInt8
 held:Int
def bW.zero:bW:=⟨[],[],0,[],[],0⟩
inductive abe where
 | stop (code:Int) (off:Nat)
 | ext (s:bW) (next:Nat)
 | ent (e:En) (s:bW) (next:Nat)
namespace Plain
def iZ(l:List Pr):Int:=(l.map fun p=>(jO p:Int)).sum
def there(data:List UInt8)(o:Nat)(n:Int):Bool:=decide (span n<=((data.length-o:Nat):Int) / 512)
def pend(s:bW):Bool:=decide (0<s.zk)||!s.ln.isEmpty||!s.lr.isEmpty
def qN(s:bW):Int:=iZ s.glob+s.zk+s.ln.length+s.lr.length
def GA(s:bW):bW:={s with held:=max s.held (qN s)}
def F8(kept:List Pr)(p:Pr):List Pr:=(kept.filter fun q=>!(q.1==p.1))++(if p.2=[] then[] else[p])
def merge(kept more:List Pr):List Pr:=more.foldl F8 kept
theorem OX(kept more:List Pr)(p:Pr):merge kept (more++[p])=F8 (merge kept more) p:=by simp[merge,qbd]
theorem El(kept l:List Pr)(k:Nat)(h:k<l.length):merge kept (l.take (k+1))=F8 (merge kept (l.take k)) (l.getD k ([],[])):=by
 rw[Nh h,OX];simp[List.getD,kM h]
def recs(data:List UInt8)(lim:kG)(o:Nat)(size:Int):Except Int (List Pr) :=
 if lim.iP<size then .error 74 else if there data o size=false then .error 70 else if size=0 then .error 50 else
 match read (eH data o (o+size.toNat)) with
 | none=>.error 50
 | some ps=>.ok ps
def Rt(data:List UInt8)(lim:kG)(o:Nat)(h:Hd)(s:bW):Except Int bW :=
 if 0<s.zk then .error 76 else match recs data lim o h.size with
  | .error c=>.error c
  | .ok ps=>.ok (GA {s with loc:=ps,zk:=h.size})
def Ui(data:List UInt8)(lim:kG)(o:Nat)(h:Hd)(s:bW):Except Int bW :=
 if pend s=true then .error 77 else match recs data lim o h.size with
  | .error c=>.error c
  | .ok ps=>if lim.iP<iZ (merge s.glob ps) then .error 74 else .ok (GA {s with glob:=merge s.glob ps})
def oJ(s:bW)(ty:UInt8):List UInt8:=if ty=76 then s.ln else s.lr
def dD(s:bW)(ty:UInt8)(t:List UInt8):bW:=if ty=76 then {s with ln:=t} else {s with lr:=t}
def Tg(data:List UInt8)(lim:kG)(o:Nat)(h:Hd)(s:bW):Except Int bW :=
 if oJ s h.ty≠[] then .error 76 else if lim.name+1<h.size then .error 75 else if there data o h.size=false then .error 70 else
 let t:=text (eH data o (o+h.size.toNat))
 if t=[]\/lim.name<t.length then .error 75 else .ok (GA (dD s h.ty t))
def extend(data:List UInt8)(lim:kG)(o:Nat)(h:Hd)(s:bW):Except Int bW :=
 if h.ty=120 then Rt data lim o h s else if h.ty=103 then Ui data lim o h s else Tg data lim o h s
def entry(data:List UInt8)(o:Nat)(h:Hd)(s:bW):Except Int (En×Int) :=
 let r:=gG h s.glob s.loc s.ln s.lr
 if r.2.2≠0 then .error r.2.2 else if there data o r.2.1=false then .error 70 else
 .ok ({r.1 with data:=if r.1.kind=1 then eH data o (o+r.2.1.toNat) else[]},r.2.1)
def clean(s:bW):bW:={s with loc:=[],zk:=0,ln:=[],lr:=[]}
def finish(data:List UInt8)(o:Nat)(s:bW):Int×Nat :=
 if pend s=true then(77,o) else if data.length-(o+512)<512 then(71,o) else if eH data (o+512) (o+1024)≠cZ then(72,o) else(0,o+1024)
def lH(ty:UInt8):Bool:=decide (ty=120\/ty=103\/ty=76\/ty=75)
def next(o:Nat)(size:Int):Nat:=o+512*(1+span size).toNat
def gH(data:List UInt8)(lim:kG)(o:Nat)(s:bW):abe :=
 if data.length-o=0 then .stop 71 o else if data.length-o<512 then .stop 70 o else
 let r:=hread (eH data o (o+512))
 if r.2=40 then .stop (finish data o s).1 (finish data o s).2 else if r.2≠0 then .stop r.2 o else
 if lH r.1.ty=true then(match extend data lim (o+512) r.1 s with|.error c=>.stop c o|.ok s'=>.ext s' (next o r.1.size))
 else if 48<=r.1.ty/\r.1.ty<=54 then(match entry data (o+512) r.1 s with|.error c=>.stop c o|.ok (e,size)=>.ent e (clean s) (next o size))
 else .stop 73 o
structure Pz where
 ents:List En
 code:Int
 off:Nat
 held:Int
def fC(data:List UInt8)(lim:kG):Nat->Nat->bW->Pz
 | 0,o,s=>⟨[],71,o,s.held⟩
 | f+1,o,s=>match gH data lim o s with
  | .stop c off=>⟨[],c,off,s.held⟩
  | .ext s' n=>fC data lim f n s'
  | .ent e s' n=>let r:=fC data lim f n s';{r with ents:=e::r.ents}
def eT(lim:kG):Bool:=decide (1<=lim.name/\lim.name<=4096/\0<=lim.iP/\lim.iP<=1048576)
def Qy:Pz:=⟨[],78,0,0⟩
def jA(data:List UInt8)(lim:kG):Pz:=if eT lim=true then fC data lim (data.length+1) 0 bW.zero else Qy
end Plain
def abe.top:abe->Option Nat
 | .stop c off=>if c=0 then some off else none
 | .ext _ n=>some n
 | .ent _ _ n=>some n
namespace Plain
theorem gy(n:Int):0<=span n:=by unfold span;split <;> omega
theorem Bl(n:Int):n<=512*span n:=by unfold span;split <;> omega
theorem ajd(c more:List UInt8)(a b:Nat)(h:b<=c.length):eH (c++more) a b=eH c a b:=by
 unfold eH;rw[List.take_append_of_le_length h]
theorem tX(d:List UInt8)(o:Nat)(n:Int):there d o n=true↔span n<=((d.length-o:Nat):Int) / 512:=by unfold there;simp
theorem Lr(d:List UInt8)(o:Nat)(n:Int):there d o n=false↔((d.length-o:Nat):Int) / 512<span n:=by unfold there;simp
theorem xU{d:List UInt8}{o:Nat}{n:Int}(ho:o<=d.length)(h:there d o n=true):o+n.toNat<=d.length:=by
 rw[tX] at h;have:=Bl n;omega
theorem ajf{c:List UInt8}(more:List UInt8){o:Nat}{n:Int}(h:there c o n=true):there (c++more) o n=true:=by
 rw[tX] at h ⊢;rw[vG];omega
theorem Rk(o:Nat)(n:Int):o+512<=next o n:=by unfold next;have:=gy n;omega
theorem aju{d:List UInt8}{o:Nat}{n:Int}(h:there d (o+512) n=false):d.length<next o n:=by
 rw[Lr] at h;unfold next
 have:=gy n;omega
theorem Bg{d:List UInt8}{o:Nat}{n:Int}(ho:o+512<=d.length)(h:there d (o+512) n=true):next o n<=d.length:=by
 rw[tX] at h;unfold next
 have:=gy n;omega
def jw(c:Int):Prop:=c=50\/c=60\/c=61\/c=70\/c=73\/c=74\/c=75\/c=76\/c=77
theorem Ka{d:List UInt8}{lim:kG}{o:Nat}{n:Int}{c:Int}(h:recs d lim o n=.error c):jw c:=by
 unfold recs at h;unfold jw;split at h
 .cases h;simp
 .split at h
  .cases h;simp
  .split at h
   .cases h;simp
   .split at h
    .cases h;simp
    .cases h
theorem Et{d:List UInt8}{lim:kG}{o:Nat}{h:Hd}{s:bW}{c:Int}(he:extend d lim o h s=.error c):jw c:=by
 unfold extend at he;split at he
 .unfold Rt at he;split at he
  .cases he;simp[jw]
  .split at he
   .rename_i hr;cases he;exact Ka hr
   .cases he
 .split at he
  .unfold Ui at he;split at he
   .cases he;simp[jw]
   .split at he
    .rename_i hr;cases he;exact Ka hr
    .split at he
     .cases he;simp[jw]
     .cases he
  .unfold Tg at he;split at he
   .cases he;simp[jw]
   .split at he
    .cases he;simp[jw]
    .split at he
     .cases he;simp[jw]
     .simp only at he;split at he
      .cases he;simp[jw]
      .cases he
theorem Pq(h:Hd)(g l:List Pr)(ln lr:List UInt8):(gG h g l ln lr).2.2=0\/jw (gG h g l ln lr).2.2:=by
 unfold gG;split
 .right;simp[jw]
 .split
  .right;simp[jw]
  .split
   .split
    .right;simp[jw]
    .left;rfl
   .right;simp[jw]
theorem GX{d:List UInt8}{o:Nat}{h:Hd}{s:bW}{c:Int}(he:entry d o h s=.error c):jw c:=by
 unfold entry at he;simp only at he;split at he
 .rename_i hne
  cases he
  exact(Pq h s.glob s.loc s.ln s.lr).resolve_left hne
 .split at he
  .cases he;simp[jw]
  .cases he
theorem jw.ne{c:Int}(h:jw c):c≠0/\c≠71/\c≠78/\c≠40:=by unfold jw at h;omega
theorem ajn(c more:List UInt8)(lim:kG)(o:Nat)(n:Int)(ho:o<=c.length):recs (c++more) lim o n=recs c lim o n\/(recs c lim o n=.error 70/\there c o n=false):=by
 unfold recs;by_cases h1:lim.iP<n
 .left;simp only[if_pos h1]
 .simp only[if_neg h1]
  cases h2:there c o n with
  | false=>right;simp
  | true =>
   left
   rw[ajf more h2,ajd _ _ _ _ (xU ho h2)]
theorem ajJ(c more:List UInt8)(lim:kG)(o:Nat)(h:Hd)(s:bW)(ho:o<=c.length):Rt (c++more) lim o h s=Rt c lim o h s\/(Rt c lim o h s=.error 70/\there c o h.size=false):=by
 unfold Rt;split
 .exact .inl rfl
 .rcases ajn c more lim o h.size ho with e|⟨e,h2⟩
  .rw[e];exact .inl rfl
  .right;rw[e];exact⟨rfl,h2⟩
theorem ajD(c more:List UInt8)(lim:kG)(o:Nat)(h:Hd)(s:bW)(ho:o<=c.length):Ui (c++more) lim o h s=Ui c lim o h s\/(Ui c lim o h s=.error 70/\there c o h.size=false):=by
 unfold Ui;split
 .exact .inl rfl
 .rcases ajn c more lim o h.size ho with e|⟨e,h2⟩
  .rw[e];exact .inl rfl
  .right;rw[e];exact⟨rfl,h2⟩
theorem ajC(c more:List UInt8)(lim:kG)(o:Nat)(h:Hd)(s:bW)(ho:o<=c.length):Tg (c++more) lim o h s=Tg c lim o h s\/(Tg c lim o h s=.error 70/\there c o h.size=false):=by
 unfold Tg;split
 .exact .inl rfl
 .split
  .exact .inl rfl
  .cases h2:there c o h.size with
   | false=>right;simp
   | true =>
    left
    rw[ajf more h2,ajd _ _ _ _ (xU ho h2)]
theorem ajp(c more:List UInt8)(lim:kG)(o:Nat)(h:Hd)(s:bW)(ho:o<=c.length):extend (c++more) lim o h s=extend c lim o h s\/(extend c lim o h s=.error 70/\there c o h.size=false):=by
 unfold extend;split
 .exact ajJ c more lim o h s ho
 .split
  .exact ajD c more lim o h s ho
  .exact ajC c more lim o h s ho
theorem ajz(c more:List UInt8)(o:Nat)(h:Hd)(s:bW)(ho:o<=c.length):entry (c++more) o h s=entry c o h s\/(entry c o h s=.error 70/\∀ e n,entry (c++more) o h s=.ok (e,n)->there c o n=false):=by
 unfold entry;simp only
 split
 .exact .inl rfl
 .cases h2:there c o (gG h s.glob s.loc s.ln s.lr).2.1 with
  | false =>
   right
   refine⟨by simp,fun e n he=>?_⟩;split at he
   .cases he
   .simp only[qcq,MV] at he;rw[<-he.2];exact h2
  | true =>
   left
   rw[ajf more h2,ajd _ _ _ _ (xU ho h2)]
theorem aje(c more:List UInt8)(lim:kG)(o:Nat)(s:bW)(ho:o<=c.length):gH (c++more) lim o s=gH c lim o s\/((∃ code,(code=70\/code=71)/\gH c lim o s=.stop code o)/\∀ n,(gH (c++more) lim o s).top=some n->c.length<n):=by
 by_cases h1:c.length-o<512
 .right
  refine⟨?_,fun n hn=>?_⟩
  .unfold gH;by_cases h0:c.length-o=0
   .rw[if_pos h0];exact⟨71,.inr rfl,rfl⟩
   .rw[if_neg h0,if_pos h1];exact⟨70,.inl rfl,rfl⟩
  .suffices o+512<=n by omega
   revert hn;unfold gH finish;simp only
   split
   .simp[abe.top]
   .split
    .simp[abe.top]
    .split
     .split
      .simp[abe.top]
      .split
       .simp[abe.top]
       .split
        .simp[abe.top]
        .simp[abe.top];omega
     .split
      .rename_i hne;simp[abe.top,hne]
      .split
       .split
        .rename_i he;simp[abe.top,(Et he).ne.1]
        .simp only[abe.top,Ba];rintro rfl;exact Rk _ _
       .split
        .split
         .rename_i he;simp[abe.top,(GX he).ne.1]
         .simp only[abe.top,Ba];rintro rfl;exact Rk _ _
        .simp[abe.top]
 .have hl:(c++more).length=c.length+more.length:=vG;have hf:eH (c++more) o (o+512)=eH c o (o+512):=ajd _ _ _ _ (by omega);unfold gH;rw[if_neg (by omega:¬ (c++more).length-o=0),if_neg (by omega:¬ (c++more).length-o<512),if_neg (by omega:¬ c.length-o=0),if_neg h1,hf];simp only
  generalize hread (eH c o (o+512))=r;by_cases U1:r.2=40
  .simp only[if_pos U1];unfold finish;by_cases hp:pend s=true
   .left;simp only[if_pos hp]
   .simp only[if_neg hp];by_cases h2:c.length-(o+512)<512
    .right
     simp only[if_pos h2];refine⟨⟨71,.inr rfl,rfl⟩,fun n=>?_⟩;split
     .simp[abe.top]
     .split
      .simp[abe.top]
      .simp[abe.top];omega
    .left
     have h3:¬ (c++more).length-(o+512)<512:=by rw[hl];clear U1 hf;omega
     have h4:o+1024<=c.length:=by clear U1 hf h3;omega
     rw[if_neg h3,if_neg h2,ajd c more (o+512) (o+1024) h4]
  .simp only[if_neg U1];by_cases hr0:r.2≠0
   .left;simp only[if_pos hr0]
   .simp only[if_neg hr0];by_cases hx:lH r.1.ty=true
    .simp only[if_pos hx];rcases ajp c more lim (o+512) r.1 s (by omega) with e|⟨e,ht⟩
     .left;rw[e]
     .right
      rw[e];refine⟨⟨70,.inl rfl,rfl⟩,fun n=>?_⟩;split
      .rename_i c' hc'
       simp[abe.top,(Et hc').ne.1]
      .simp only[abe.top,Ba];rintro rfl;exact aju ht
    .simp only[if_neg hx];by_cases hy:48<=r.1.ty/\r.1.ty<=54
     .simp only[if_pos hy];rcases ajz c more (o+512) r.1 s (by omega) with e|⟨e,ht⟩
      .left;rw[e]
      .right
       rw[e];refine⟨⟨70,.inl rfl,rfl⟩,fun n=>?_⟩;split
       .rename_i hc'
        simp[abe.top,(GX hc').ne.1]
       .rename_i e' size he
        simp only[abe.top,Ba];rintro rfl;exact aju (ht _ _ he)
     .left;simp only[if_neg hy]
def adp:abe->Nat->Prop
 | .stop _ _,_=>False
 | .ext _ n,m=>n=m
 | .ent _ _ n,m=>n=m
theorem yC{d:List UInt8}{lim:kG}{o:Nat}{h:Hd}{s s':bW}(he:extend d lim o h s=.ok s'):there d o h.size=true:=by
 have hrec:∀ {n:Int}{ps:List Pr},recs d lim o n=.ok ps->there d o n=true:=by
  intro n ps hr;unfold recs at hr;split at hr
  .cases hr
  .split at hr
   .cases hr
   .rename_i h2;simpa using h2
 unfold extend at he;split at he
 .unfold Rt at he;split at he
  .cases he
  .split at he
   .cases he
   .rename_i hr;exact hrec hr
 .split at he
  .unfold Ui at he;split at he
   .cases he
   .split at he
    .cases he
    .rename_i hr;exact hrec hr
  .unfold Tg at he;split at he
   .cases he
   .split at he
    .cases he
    .split at he
     .cases he
     .rename_i h2;simpa using h2
theorem r9{d:List UInt8}{o:Nat}{h:Hd}{s:bW}{e:En}{n:Int}(he:entry d o h s=.ok (e,n)):there d o n=true:=by
 unfold entry at he;simp only at he;split at he
 .cases he
 .split at he
  .cases he
  .rename_i h2
   simp only[qcq,MV] at he;rw[<-he.2];simpa using h2
theorem pK(d:List UInt8)(lim:kG)(o:Nat)(s:bW)(ho:o<=d.length):(∀ c off,gH d lim o s=.stop c off->(off=o/\c≠0/\c≠78/\(c=71->o=d.length\/o+512<=d.length))\/(c=0/\off=o+1024/\off<=d.length/\eH d o (o+512)=cZ/\eH d (o+512) (o+1024)=cZ)) /\ (∀ m,adp (gH d lim o s) m->o+512<=m/\m<=d.length/\∃ n:Int,m=next o n):=by
 unfold gH;by_cases h0:d.length-o=0
 .rw[if_pos h0];refine⟨fun c off he=>?_,fun m hm=>hm.elim⟩
  cases he
  left;refine⟨rfl,by decide,by decide,fun _=>.inl (by omega)⟩
 .rw[if_neg h0];by_cases h1:d.length-o<512
  .rw[if_pos h1];refine⟨fun c off he=>?_,fun m hm=>hm.elim⟩
   cases he
   left;exact⟨rfl,by decide,by decide,fun h=>absurd h (by decide)⟩
  .rw[if_neg h1];simp only
   by_cases U1:(hread (eH d o (o+512))).2=40
   .rw[if_pos U1];refine⟨fun c off he=>?_,fun m hm=>hm.elim⟩;simp only[abe.stop.injEq] at he;obtain⟨e1,e2⟩:=he;unfold finish at e1 e2;have hz:eH d o (o+512)=cZ:=by
     revert U1;unfold hread;split
     .intro _;assumption
     .split
      .intro h;exact absurd h (show ¬ (41:Int)=40 by decide)
      .split
       .intro h;exact absurd h (show ¬ (42:Int)=40 by decide)
       .intro h;exact absurd h (show ¬ (0:Int)=40 by decide)
    by_cases hp:pend s=true
    .rw[if_pos hp] at e1 e2;simp only at e1 e2;subst e1 e2
     left;exact⟨rfl,by decide,by decide,fun h=>absurd h (by decide)⟩
    .rw[if_neg hp] at e1 e2;by_cases h2:d.length-(o+512)<512
     .rw[if_pos h2] at e1 e2;simp only at e1 e2;subst e1 e2
      left;exact⟨rfl,by decide,by decide,fun _=>.inr (by omega)⟩
     .rw[if_neg h2] at e1 e2;by_cases h3:eH d (o+512) (o+1024)≠cZ
      .rw[if_pos h3] at e1 e2;simp only at e1 e2;subst e1 e2
       left;exact⟨rfl,by decide,by decide,fun h=>absurd h (by decide)⟩
      .rw[if_neg h3] at e1 e2;simp only at e1 e2;subst e1 e2
       right;exact⟨rfl,rfl,by omega,hz,qcb.1 h3⟩
   .rw[if_neg U1];by_cases hr0:(hread (eH d o (o+512))).2≠0
    .rw[if_pos hr0];refine⟨fun c off he=>?_,fun m hm=>hm.elim⟩;simp only[abe.stop.injEq] at he;obtain⟨e1,e2⟩:=he
     left
     have hc:c=41\/c=42:=by
      rw[<-e1];revert U1 hr0;unfold hread;split
      .intro h;exact absurd rfl h
      .split
       .intros;left;rfl
       .split
        .intros;right;rfl
        .intro _ h;exact absurd rfl h
     exact⟨e2.symm,by omega,by omega,fun h=>by omega⟩
    .rw[if_neg hr0];generalize hread (eH d o (o+512))=r;by_cases hx:lH r.1.ty=true
     .rw[if_pos hx]
      cases he:extend d lim (o+512) r.1 s with
      | error c' =>
       refine⟨fun c off h=>?_,fun m hm=>hm.elim⟩
       cases h
       have:=(Et he).ne
       left;exact⟨rfl,this.1,this.2.2.1,fun h=>absurd h this.2.1⟩
      | ok s' =>
       refine⟨fun c off h=>(by cases h),fun m hm=>?_⟩;obtain rfl:next o r.1.size=m:=hm
       exact⟨Rk _ _,Bg (by omega) (yC he),_,rfl⟩
     .rw[if_neg hx];by_cases hy:48<=r.1.ty/\r.1.ty<=54
      .rw[if_pos hy]
       cases he:entry d (o+512) r.1 s with
       | error c' =>
        refine⟨fun c off h=>?_,fun m hm=>hm.elim⟩
        cases h
        have:=(GX he).ne
        left;exact⟨rfl,this.1,this.2.2.1,fun h=>absurd h this.2.1⟩
       | ok p =>
        obtain⟨e,n⟩:=p;refine⟨fun c off h=>(by cases h),fun m hm=>?_⟩;obtain rfl:next o n=m:=hm
        exact⟨Rk _ _,Bg (by omega) (r9 he),_,rfl⟩
      .rw[if_neg hy];refine⟨fun c off he=>?_,fun m hm=>hm.elim⟩
       cases he
       left;exact⟨rfl,by decide,by decide,fun h=>absurd h (by decide)⟩
theorem tO(d:List UInt8)(lim:kG):∀ (f f' o:Nat)(s:bW),o<=d.length->d.length-o<f->d.length-o<f'->fC d lim f o s=fC d lim f' o s
 | 0,_,_,_,_,h,_=>absurd h (qbq _)
 | _+1,0,_,_,_,_,h=>absurd h (qbq _)
 | f+1,f'+1,o,s,ho,h,h'=>by
  have ha:=(pK d lim o s ho).2;unfold fC
  cases he:gH d lim o s with
  | stop c off=>rfl
  | ext s' n =>
   rw[he] at ha;have:=ha n rfl;exact tO d lim f f' n s' this.2.1 (by omega) (by omega)
  | ent e s' n =>
   rw[he] at ha;have:=ha n rfl;simp only
   rw[tO d lim f f' n s' this.2.1 (by omega) (by omega)]
def sgo(d:List UInt8)(lim:kG)(o:Nat)(s:bW):Pz:=fC d lim (d.length+1) o s
theorem adV(d:List UInt8)(lim:kG)(o:Nat)(s:bW)(ho:o<=d.length):sgo d lim o s=match gH d lim o s with
  | .stop c off=>⟨[],c,off,s.held⟩
  | .ext s' n=>sgo d lim n s'
  | .ent e s' n=>{sgo d lim n s' with ents:=e::(sgo d lim n s').ents}:=by
 have ha:=(pK d lim o s ho).2;unfold sgo;rw[fC]
 cases he:gH d lim o s with
 | stop c off=>rfl
 | ext s' n =>
  rw[he] at ha;have:=ha n rfl;exact tO d lim _ _ n s' this.2.1 (by omega) (by omega)
 | ent e s' n =>
  rw[he] at ha;have:=ha n rfl;simp only
  rw[tO d lim d.length (d.length+1) n s' this.2.1 (by omega) (by omega)]
theorem Jp{d:List UInt8}{lim:kG}{C:Nat->bW->Pz->Prop}(h1:∀ o s c off,o<=d.length->gH d lim o s=.stop c off->C o s ⟨[],c,off,s.held⟩)(h2:∀ o s s' n,o<=d.length->n<=d.length->o+512<=n->gH d lim o s=.ext s' n->C n s' (sgo d lim n s')->C o s (sgo d lim n s'))(h3:∀ o s e s' n,o<=d.length->n<=d.length->o+512<=n->gH d lim o s=.ent e s' n->C n s' (sgo d lim n s')->C o s {sgo d lim n s' with ents:=e::(sgo d lim n s').ents}):∀ o s,o<=d.length->C o s (sgo d lim o s):=by
 intro o s ho;generalize hk:d.length-o=k
 induction k using Nat.strongRecOn generalizing o s with
 | ind k ih =>
  have ha:=(pK d lim o s ho).2;rw[adV d lim o s ho]
  cases he:gH d lim o s with
  | stop c off=>exact h1 o s c off ho he
  | ext s' n =>
   rw[he] at ha;have:=ha n rfl;exact h2 o s s' n ho this.2.1 this.1 he (ih (d.length-n) (by omega) n s' this.2.1 rfl)
  | ent e s' n =>
   rw[he] at ha;have:=ha n rfl;exact h3 o s e s' n ho this.2.1 this.1 he (ih (d.length-n) (by omega) n s' this.2.1 rfl)
theorem ajm{d:List UInt8}{lim:kG}{o:Nat}{h:Hd}{s s':bW}(he:extend d lim o h s=.ok s'):s.held<=s'.held/\qN s'<=s'.held:=by
 have hw:∀ t:bW,t.held=s.held->s.held<=(GA t).held/\qN (GA t)<=(GA t).held:=fun t ht=>by
  unfold GA qN;simp only;omega
 unfold extend at he;split at he
 .unfold Rt at he;split at he
  .cases he
  .split at he
   .cases he
   .cases he;exact hw _ rfl
 .split at he
  .unfold Ui at he;split at he
   .cases he
   .split at he
    .cases he
    .split at he
     .cases he
     .cases he;exact hw _ rfl
  .unfold Tg at he;split at he
   .cases he
   .split at he
    .cases he
    .split at he
     .cases he
     .simp only at he;split at he
      .cases he
      .cases he
       refine hw _ ?_;unfold dD;split <;> rfl
theorem Rx{d:List UInt8}{lim:kG}{o n:Nat}{s s':bW}(he:gH d lim o s=.ext s' n):∃ h,hread (eH d o (o+512))=(h,0)/\lH h.ty=true/\extend d lim (o+512) h s=.ok s'/\n=next o h.size:=by
 unfold gH at he;simp only at he;split at he
 .cases he
 .split at he
  .cases he
  .split at he
   .cases he
   .split at he
    .cases he
    .rename_i h0
     split at he
     .rename_i hx
      split at he
      .cases he
      .rename_i s'' hs
       cases he
       exact⟨_,Prod.ext rfl (qcb.1 h0),hx,hs,rfl⟩
     .split at he
      .split at he <;> cases he
      .cases he
theorem TW{d:List UInt8}{lim:kG}{o n:Nat}{e:En}{s s':bW}(he:gH d lim o s=.ent e s' n):∃ h size,hread (eH d o (o+512))=(h,0)/\(48<=h.ty/\h.ty<=54)/\entry d (o+512) h s=.ok (e,size)/\s'=clean s/\n=next o size:=by
 unfold gH at he;simp only at he;split at he
 .cases he
 .split at he
  .cases he
  .split at he
   .cases he
   .split at he
    .cases he
    .rename_i h0
     split at he
     .split at he <;> cases he
     .split at he
      .rename_i hy
       split at he
       .cases he
       .rename_i e' sz hs
        cases he
        exact⟨_,_,Prod.ext rfl (qcb.1 h0),hy,hs,rfl,rfl⟩
      .cases he
theorem ajB(d:List UInt8)(lim:kG):∀ o s,o<=d.length->s.held<=(sgo d lim o s).held :=Jp (C:=fun o s r=>s.held<=r.held) (fun o s c off _ _=>U4 _)
  (fun o s s' n _ _ _ he ih=>by
   obtain⟨h,_,_,h2,_⟩:=Rx he;have:=(ajm h2).1;omega)
  fun o s e s' n _ _ _ he ih=>by
   obtain⟨h,sz,_,_,_,rfl,_⟩:=TW he;exact ih
theorem ZT(d:List UInt8)(lim:kG):∀ o s,o<=d.length->o<=(sgo d lim o s).off/\(sgo d lim o s).off<=d.length/\(sgo d lim o s).code≠78/\((sgo d lim o s).code=0->∃ x,(sgo d lim o s).off=x+1024/\eH d x (x+512)=cZ/\eH d (x+512) (x+1024)=cZ) :=Jp (C:=fun o s r=>o<=r.off/\r.off<=d.length/\r.code≠78/\(r.code=0->∃ x,r.off=x+1024/\eH d x (x+512)=cZ/\eH d (x+512) (x+1024)=cZ))
  (fun o s c off ho he=>by
   rcases (pK d lim o s ho).1 c off he with⟨rfl,h2,h3,h4⟩|⟨rfl,rfl,h3,h4,h5⟩
   .exact⟨aY _,ho,h3,fun h=>absurd h h2⟩
   .exact⟨by show o<=o+1024;omega,h3,by show(0:Int)≠78;decide,fun _=>⟨o,rfl,h4,h5⟩⟩)
  (fun o s s' n ho hn hlt he ih=>⟨by omega,ih.2⟩)
  fun o s e s' n ho hn hlt he ih=>⟨by have:=ih.1;simp only;omega,ih.2⟩
end Plain
def abe.shift(k:Nat):abe->abe
 | .stop c off=>.stop c (k+off)
 | .ext s n=>.ext s (k+n)
 | .ent e s n=>.ent e s (k+n)
namespace Plain
theorem akH(x y:List UInt8)(a b:Nat):eH (x++y) (x.length+a) (x.length+b)=eH y a b:=by
 unfold eH;rw[List.take_length_add_append,List.drop_length_add_append]
theorem akK(x y:List UInt8)(o:Nat)(n:Int):there (x++y) (x.length+o) n=there y o n:=by
 unfold there;rw[vG,show x.length+y.length-(x.length+o)=y.length-o by omega]
theorem ak3(x y:List UInt8)(lim:kG)(o:Nat)(n:Int):recs (x++y) lim (x.length+o) n=recs y lim o n:=by
 unfold recs;rw[akK,Zu,akH]
theorem akU(x y:List UInt8)(lim:kG)(o:Nat)(h:Hd)(s:bW):extend (x++y) lim (x.length+o) h s=extend y lim o h s:=by
 unfold extend Rt Ui Tg;rw[ak3,akK,Zu,akH]
theorem akW(x y:List UInt8)(o:Nat)(h:Hd)(s:bW):entry (x++y) (x.length+o) h s=entry y o h s:=by
 unfold entry;simp only
 rw[akK,Zu,akH]
theorem akT(x y:List UInt8)(o:Nat)(s:bW):finish (x++y) (x.length+o) s=((finish y o s).1,x.length+(finish y o s).2):=by
 unfold finish;rw[vG,show x.length+y.length-(x.length+o+512)=y.length-(o+512) by omega,Zu,Zu,akH];split
 .rfl
 .split
  .rfl
  .split <;> rfl
theorem akQ(k o:Nat)(n:Int):next (k+o) n=k+next o n:=by unfold next;omega
theorem akJ(x y:List UInt8)(lim:kG)(o:Nat)(s:bW):gH (x++y) lim (x.length+o) s=(gH y lim o s).shift x.length:=by
 unfold gH;simp only
 rw[vG,show x.length+y.length-(x.length+o)=y.length-o by omega,Zu,akH,akU,akW,akT];split
 .rfl
 .split
  .rfl
  .split
   .rfl
   .split
    .rfl
    .split
     .split
      .rfl
      .simp only[abe.shift,akQ]
     .split
      .split
       .rfl
       .simp only[abe.shift,akQ]
      .rfl
theorem ala(x y:List UInt8)(lim:kG):∀ o s,o<=y.length->sgo (x++y) lim (x.length+o) s={sgo y lim o s with off:=x.length+(sgo y lim o s).off}:=by
 have hl:(x++y).length=x.length+y.length:=vG;refine Jp (C:=fun o s r=>sgo (x++y) lim (x.length+o) s={r with off:=x.length+r.off}) ?_ ?_ ?_
 .intro o s c off ho he;rw[adV (x++y) lim (x.length+o) s (by omega),akJ,he];rfl
 .intro o s s' n ho hn hlt he ih;rw[adV (x++y) lim (x.length+o) s (by omega),akJ,he];exact ih
 .intro o s e s' n ho hn hlt he ih;rw[adV (x++y) lim (x.length+o) s (by omega),akJ,he];simp only[abe.shift];rw[ih]
theorem jD:∀ l:List Pr,0<=iZ l
 | []=>by simp[iZ]
 | p::l=>by
  have:=jD l;unfold iZ at this ⊢;simp only[qcf,List.sum_cons];omega
theorem ald:∀ l:List Pr,iZ l<=0->l=[]
 | [],_=>rfl
 | p::l,h=>by
  exfalso;have h1:=jD l;have h2:=akZ p;unfold iZ at h h1;simp only[qcf,List.sum_cons] at h;omega
def alp(s:bW):Prop:=0<=s.zk
theorem Cy{l:List UInt8}{h:Hd}(hr:hread l=(h,0)):0<=h.size:=by
 unfold hread at hr;split at hr
 .cases hr
 .split at hr
  .cases hr
  .split at hr
   .cases hr
   .rename_i h3
    simp only[MV,and_true] at hr;subst hr;have h4:nK l=true:=by simpa using h3
    unfold nK at h4;simp only[fE] at h4;have h5:=h4.1.1.2;unfold rQ at h5;have h6:=of_decide_eq_true h5;unfold Go.Proofs.YtdbgldieilgnmaaGreatDoor.NQ;simp only
    split
    .exact U4 _
    .exact h6.2.1
theorem akY{d:List UInt8}{lim:kG}{o:Nat}{h:Hd}{s s':bW}(hs:alp s)(hh:0<=h.size)(he:extend d lim o h s=.ok s'):alp s':=by
 unfold extend at he;split at he
 .unfold Rt at he;split at he
  .cases he
  .split at he
   .cases he
   .cases he;exact hh
 .split at he
  .unfold Ui at he;split at he
   .cases he
   .split at he
    .cases he
    .split at he
     .cases he
     .cases he;exact hs
  .unfold Tg at he;split at he
   .cases he
   .split at he
    .cases he
    .split at he
     .cases he
     .simp only at he;split at he
      .cases he
      .cases he
       unfold dD;split <;> exact hs
theorem akV{s:bW}(hn:alp s)(h:qN s<=0)(hh:s.held=0):s=bW.zero\/(s.glob=[]/\s.zk=0/\s.ln=[]/\s.lr=[]/\s.held=0):=by
 right
 have hp:=jD s.glob;unfold qN at h;unfold alp at hn;refine⟨ald _ (by omega),by omega,O8 (by omega),O8 (by omega),hh⟩
theorem alg{d:List UInt8}{lim:kG}{o:Nat}{h:Hd}{s s':bW}(he:extend d lim o h s=.ok s')(hs:s=bW.zero)(hh:0<=h.size)(h0:s'.held=0):s'=bW.zero:=by
 have hg:=(ajm he).2;have hz:=akV (akY (s:=s) (by subst hs;exact U4 _) hh he) (by omega) h0;rcases hz with hz|⟨h1,h2,h3,h4,h5⟩
 .exact hz
 .have hloc:s'.loc=[]:=by
   subst hs;unfold extend at he;split at he
   .unfold Rt at he;split at he
    .cases he
    .split at he
     .cases he
     .rename_i ps hr
      cases he
      exfalso;have hl:h.size=0:=h2;unfold recs at hr;split at hr
      .cases hr
      .split at hr
       .cases hr
       .first|(rw[if_pos hl] at hr;cases hr)|cases hr
   .split at he
    .unfold Ui at he;split at he
     .cases he
     .split at he
      .cases he
      .split at he
       .cases he
       .cases he;rfl
    .unfold Tg at he;split at he
     .cases he
     .split at he
      .cases he
      .split at he
       .cases he
       .simp only at he;split at he
        .cases he
        .cases he
         unfold dD;split <;> rfl
  cases s'
  simp only at h1 h2 h3 h4 h5 hloc;subst h1 h2 h3 h4 h5 hloc;rfl
theorem ali(x y:List UInt8)(lim:kG):∀ o s,o<=x.length->s=bW.zero->(sgo x lim o s).code=71->(sgo x lim o s).off=x.length->(sgo x lim o s).held=0 ->
  sgo (x++y) lim o s=⟨(sgo x lim o s).ents++(sgo y lim 0 bW.zero).ents,(sgo y lim 0 bW.zero).code,x.length+(sgo y lim 0 bW.zero).off,(sgo y lim 0 bW.zero).held⟩:=by
 have hl:(x++y).length=x.length+y.length:=vG;refine Jp (C:=fun o s r=>s=bW.zero->r.code=71->r.off=x.length->r.held=0 ->
  sgo (x++y) lim o s=⟨r.ents++(sgo y lim 0 bW.zero).ents,(sgo y lim 0 bW.zero).code,x.length+(sgo y lim 0 bW.zero).off,(sgo y lim 0 bW.zero).held⟩) ?_ ?_ ?_
 .intro o s c off ho he hs h1 h2 h3;have h1:c=71:=h1;have h2:off=x.length:=h2;subst h1 hs;rcases (pK x lim o _ ho).1 71 off he with⟨e,_,_,h4⟩|⟨e,_⟩
  .have:=h4 rfl;obtain rfl:o=x.length:=by omega
   have:=ala x y lim 0 bW.zero (M8 _);rw[R4] at this;rw[this];rfl
  .exact absurd e (by decide)
 .intro o s s' n ho hn hlt he ih hs h1 h2 h3;have aga:=ajB x lim n s' hn;obtain⟨h,hr,hx,hext,rfl⟩:=Rx he;have hs0:s.held=0:=by rw[hs];rfl
  have hg:=(ajm hext).1;have hz:=alg hext hs (Cy hr) (by omega);rw[adV (x++y) lim o s (by omega)];rcases aje x y lim o s ho with e|⟨⟨code,_,e⟩,_⟩
  .rw[e,he];exact ih hz h1 h2 h3
  .rw[he] at e;cases e
 .intro o s e' s' n ho hn hlt he ih hs h1 h2 h3;obtain⟨h,sz,_,_,_,hs',_⟩:=TW he;have hz:s'=bW.zero:=by rw[hs',hs];rfl
  rw[adV (x++y) lim o s (by omega)];rcases aje x y lim o s ho with e|⟨⟨code,_,e⟩,_⟩
  .rw[e,he];simp only
   rw[ih hz h1 h2 h3];rfl
  .rw[he] at e;cases e
def uO(lim:kG)(s:bW):Prop:=iZ s.glob<=lim.iP/\0<=s.zk/\s.zk<=lim.iP/\(s.ln.length:Int)<=lim.name/\(s.lr.length:Int)<=lim.name/\0<=s.held/\s.held<=2*lim.iP+2*lim.name
theorem G8{lim:kG}(h:eT lim=true):uO lim bW.zero:=by
 unfold eT at h;have h:=of_decide_eq_true h;unfold uO bW.zero iZ;simp;omega
theorem nQ{lim:kG}{s:bW}(h0:0<=s.held)(h1:s.held<=2*lim.iP+2*lim.name)(ha:iZ s.glob<=lim.iP)(hb:0<=s.zk)(hc:s.zk<=lim.iP)(hd:(s.ln.length:Int)<=lim.name)(he:(s.lr.length:Int)<=lim.name):uO lim (GA s):=by
 have hp:=jD s.glob;refine⟨ha,hb,hc,hd,he,?_,?_⟩
 .show 0<=max s.held (qN s);unfold qN;omega
 .show max s.held (qN s)<=_;unfold qN;omega
theorem Es{lim:kG}{s:bW}(hl:eT lim=true)(hs:uO lim s):uO lim (clean s):=by
 unfold eT at hl;have hl:=of_decide_eq_true hl;obtain⟨a1,a2,a3,a4,a5,a6,a7⟩:=hs;refine⟨a1,U4 _,?_,?_,?_,a6,a7⟩ <;> simp only[clean,List.length_nil] <;> omega
end Plain
section
open Go.Maps (Keyed)
namespace Gr
def held(v:Value):Option (DataW Value×List MemPlace):=some (.held v,[])
def Reads{κ:Type}(mk:κ->Lit)(D:DataW Value)(f:κ->Option Value):Prop:=∀ x,Maps.has D (mk x)=(f x).isSome/\∀ v,f x=some v->∀ z,D.atKey (mk x) z=.held v
def Mp{κ:Type}(mk:κ->Lit)(P:Program)(k:TypeId)(w:World)(b s:Nat)(f:κ->Option Value):Prop :=∃ D:DataW Value,w.ownsMap P k held b s D/\Maps.size D=s/\Reads mk D f
section
variable {κ:Type}{mk:κ->Lit}{P:Program}{k:TypeId}{w:World}{b s:Nat}{f:κ->Option Value}
theorem Mp.made(mk:κ->Lit)(w:World)(P:Program)(k:TypeId):Mp mk P k (w.alloc (.map #[] 0)) w.heap.size 0 (fun _=>none) :=⟨.map [],World.ownsMap_made _ _ _ _,rfl,fun x=>⟨rfl,fun v hv=>by cases hv⟩⟩
theorem Mp.lt(h:Mp mk P k w b s f):b<w.heap.size:=by obtain⟨D,h,_⟩:=h;exact h.lt
theorem Mp.kept{w':World}{row:Option Nat}(h:Mp mk P k w b s f)(hg:w.grownBy w' row)(hne:some b≠row):Mp mk P k w' b s f:=by
 obtain⟨D,h1,h2,h3⟩:=h;exact⟨D,h1.kept hg hne,h2,h3⟩
theorem Mp.block{w':World}(h:Mp mk P k w b s f)(hb:w'.heap[b]? = w.heap[b]?):Mp mk P k w' b s f:=by
 obtain⟨D,⟨es,clock,h1,h2⟩,h3⟩:=h;exact⟨D,⟨es,clock,hb.trans h1,h2⟩,h3⟩
theorem Mp.below{w':World}{B:Nat}(h:Mp mk P k w b s f)(hb:Below B w w')(hlt:b<B):Mp mk P k w' b s f:=h.block (hb.block b hlt)
theorem Mp.congr{g:κ->Option Value}(h:Mp mk P k w b s f)(e:∀ x,f x=g x):Mp mk P k w b s g:=by
 have:f=g:=funext e
 rwa [<-this]
theorem uL{n:Nat}{D:DataW Value}(h:w.ownsMap P k held b n D):w.ownsMap P k held b (Maps.size D) D:=by
 obtain⟨es,clock,hb,F,_,rfl⟩:=h;exact⟨es,clock,hb,F,by simp[Maps.size,length_sorted],rfl⟩
theorem Mp.value{D:DataW Value}(hr:Reads mk D f)(x:κ){v z:Value}{ps:List MemPlace}(h:held v=some (D.atKey (mk x) (.held z),ps)):v=(f x).getD z:=by
 simp only[held,Ba,MV] at h;obtain⟨h1,h2⟩:=hr x
 cases hf:f x with
 | none =>
  rw[hf] at h1;have:=Maps.atKey_of_not_has (H:=Value) h1 (.held z);rw[this] at h;exact DataW.held.inj h.1
 | some u =>
  rw[h2 u hf] at h;exact DataW.held.inj h.1
variable {ops:Array Oper}{rest:List Oper}{o:Oper}{a:Act}{Q:Exit->Act->World->Prop}
theorem xD(hg:o.guard=none)(m y:Operand)(t:TypeId)(hop:o.op=Op.lookup t m y true)(e:TypeId)(K:Keyed P k)(ht:P.underlying t=some (.map k e)){z:Value}(hz:(zeroValue e).run P w=.ok z w)(hm:a.eval m=.map (some b))(h:Mp mk P k w b s f)(key:Value)(x:κ)(hx:a.eval y=key)(hkey:keyOf P k key=some (mk x))(hK:wpList P ops Q rest (a.put o.dst (.tuple #[(f x).getD z,.bool (f x).isSome])) w):wpList P ops Q (o::rest) a w:=by
 obtain⟨D,h1,h2,h3⟩:=h;obtain⟨v,ps,hrun,hv⟩:=h1.look_ok K ht hz (zd:=.held z) (zp:=[]) rfl hkey;obtain rfl:=Mp.value h3 x hv;rw[(h3 x).1] at hrun;refine wpList_plain hg fun K' hK'=>?_
 unfold Oper.wp;simp[execOp,hop,hm,hx,hrun,Result.andThen];exact hK' _ _ hK
theorem Mp.Kj(h:Mp mk P k w b s f){t e:TypeId}(K:Keyed P k)(ht:P.underlying t=some (.map k e)){z:Value}(hz:(zeroValue e).run P w=.ok z w){key:Value}(x:κ)(hkey:keyOf P k key=some (mk x)):(Instr.lookup t (.map (some b)) key false).run P w=.ok ((f x).getD z) w:=by
 obtain⟨D,h1,h2,h3⟩:=h;obtain⟨v,ps,hrun,hv⟩:=h1.lookup K ht hz (zd:=.held z) (zp:=[]) rfl hkey;obtain rfl:=Mp.value h3 x hv;exact hrun
theorem Mp.aaG(h:Mp mk P k w b s f){t e:TypeId}(ht:P.underlying t=some (.map k e))(ty:TypeId):(Builtin.len_ #[t] ty #[.map (some b)]).run P w=.ok (.int .i64 s) w:=by
 obtain⟨D,h1,h2,h3⟩:=h;rw[h1.len ht ty,h2]
theorem mE(hg:o.guard=none)(m y:Operand)(t:TypeId)(hop:o.op=Op.lookup t m y true)(e:TypeId)(K:Keyed P k)(ht:P.underlying t=some (.map k e)){z:Value}(hz:(zeroValue e).run P w=.ok z w)(hm:a.eval m=.map (some b))(h:Mp mk P k w b s f)(key:Value)(x:κ)(hx:a.eval y=key)(hkey:keyOf P k key=some (mk x))(v:Value)(ok:Bool)(hv:(f x).getD z=v)(hok:(f x).isSome=ok)(hK:wpList P ops Q rest (a.put o.dst (.tuple #[v,.bool ok])) w):wpList P ops Q (o::rest) a w :=xD hg m y t hop e K ht hz hm h key x hx hkey (by rw[hv,hok];exact hK)
theorem Mp.noCell(h:Mp mk P k w b s f){p:Addr}{v:Value}(hc:w.cell? p=some v):p.block≠b:=by
 obtain⟨D,⟨es,clock,h1,_⟩,_⟩:=h;intro e;rw[<-e] at h1;simp[World.cell?,h1] at hc
theorem Mp.keeps{w':World}(h:Mp mk P k w b s f)(hg:w.grownBy w' (some b)):Keeps w w':=fun p v hv=>hg.cell hv (fun e=>h.noCell hv (pQ e))
theorem below_grown{w':World}(h:Below w.heap.size w w')(row:Option Nat):w.grownBy w' row:=⟨h.os,h.tape,h.output,h.size,fun i hi _=>h.block i hi⟩
theorem nX{w':World}{B c:Nat}(h:w.grownBy w' (some c))(hc:B<=c)(hB:B<=w.heap.size):Below B w w':=⟨h.os,h.tape,h.output,h.size,fun i hi=>h.block i (by omega) (fun e=>by have:=pQ e;omega)⟩
variable [DecidableEq κ]
def upd(f:κ->Option Value)(x:κ)(v:Value):κ->Option Value:=fun y=>if y=x then some v else f y
theorem uT(hg:o.guard=none)(m y u:Operand)(t:TypeId)(hop:o.op=Op.mapUpdate t m y u)(e:TypeId)(K:Keyed P k)(ht:P.underlying t=some (.map k e))(hm:a.eval m=.map (some b))(h:Mp mk P k w b s f)(hs:s<maxLen)(key:Value)(x:κ)(hx:a.eval y=key)(hkey:keyOf P k key=some (mk x))(v:Value)(hv:a.eval u=v)(inj:∀ x y,mk x=mk y->x=y)(hK:∀ w',Mp mk P k w' b (if (f x).isSome then s else s+1) (upd f x v)->w.grownBy w' (some b)->wpList P ops Q rest (a.put o.dst undef) w'):wpList P ops Q (o::rest) a w:=by
 obtain⟨D,h1,h2,h3⟩:=h;refine wpList_plain hg fun K' hK'=>?_
 obtain⟨w',hrun,r1,r2⟩:=h1.update K ht hs hkey (d:=.held v) (ps:=[]) rfl;unfold Oper.wp;simp[execOp,hop,hm,hx,hv,hrun,Result.andThen];refine hK' _ _ (hK w' ?_ r2);have hsz:=Maps.size_put (h1.tidy K) (.held v) (k:=mk x);rw[h2,(h3 x).1] at hsz;refine⟨D.put (mk x) (.held v),?_,hsz,fun z=>?_⟩
 .have:=uL r1
  rwa [hsz] at this
 .by_cases hz:z=x
  .subst hz;exact⟨by rw[Maps.has_put_same h1.isMap (K.key hkey)];simp[upd],fun u hu z=>by simp[upd] at hu;subst hu;exact Maps.atKey_put_same h1.isMap (K.key hkey) _ _⟩
  .have hne:mk z≠mk x:=fun e=>hz (inj _ _ e)
   refine⟨by rw[Maps.has_put_other hne,(h3 z).1];simp[upd,hz],fun u hu y=>?_⟩;rw[Maps.atKey_put_other hne];simp only[upd,if_neg hz] at hu;exact(h3 z).2 u hu y
end
def mkS(x:List UInt8):Lit:=.string x
theorem Bj(x y:List UInt8)(h:mkS x=mkS y):x=y:=by simpa[mkS] using h
theorem Jm{P:Program}{k:TypeId}(hk:P.underlying k=some .string){x:List UInt8}(h:x.length<=9223372036854775807):keyOf P k (.string ⟨x.toArray⟩)=some (mkS x):=by
 rw[Go.WideMaps.keyOf_string_mk hk (by simpa[ByteArray.size,maxLen] using h)];simp[mkS]
end Gr
end
section
open Go.Maps (Keyed)
namespace Gr
section
variable {κ:Type}{mk:κ->Lit}{P:Program}{k:TypeId}{w:World}{b s:Nat}{f:κ->Option Value}
variable {ops:Array Oper}{rest:List Oper}{o:Oper}{a:Act}{Q:Exit->Act->World->Prop}
variable [DecidableEq κ]
def del(f:κ->Option Value)(x:κ):κ->Option Value:=fun y=>if y=x then none else f y
theorem Mp.adn{w':World}{D:DataW Value}{x:κ}(inj:∀ x y,mk x=mk y->x=y)(h1:w.ownsMap P k held b s D)(h3:Reads mk D f)(K:Keyed P k){key:Value}(hkey:keyOf P k key=some (mk x))(r1:w'.ownsMap P k held b s (D.del (mk x))):∃ s',s'<=s/\Mp mk P k w' b s' (del f x):=by
 refine⟨_,?_,D.del (mk x),uL r1,rfl,fun z=>?_⟩
 .exact r1.size_le
 .by_cases hz:z=x
  .subst hz;exact⟨by rw[Maps.has_del_same];simp[del],fun u hu=>by simp[del] at hu⟩
  .have hne:mk z≠mk x:=fun e=>hz (inj _ _ e)
   refine⟨by rw[Maps.has_del_other hne,(h3 z).1];simp[del,hz],fun u hu y=>?_⟩;rw[Maps.atKey_del_other hne];simp only[del,if_neg hz] at hu;exact(h3 z).2 u hu y
theorem oL(hg:o.guard=none)(m y:Operand)(t:TypeId)(hop:o.op=Op.call {callee:=Callee.builtin Builtin.delete,args:=#[m,y],argTypes:=#[t,k]})(e:TypeId)(K:Keyed P k)(ht:P.underlying t=some (.map k e))(hm:a.eval m=.map (some b))(h:Mp mk P k w b s f)(key:Value)(x:κ)(hx:a.eval y=key)(hkey:keyOf P k key=some (mk x))(inj:∀ x y,mk x=mk y->x=y)(hK:∀ w' s',s'<=s->Mp mk P k w' b s' (del f x)->w.grownBy w' (some b)->wpList P ops Q rest (a.put o.dst (.tuple #[])) w'):wpList P ops Q (o::rest) a w:=by
 obtain⟨D,h1,h2,h3⟩:=h;refine wpList_delete_own w hg m y t k hop e K ht held b s D hm h1 key (mk x) hx hkey fun w' r1 r2=>?_
 obtain⟨s',hs',hm'⟩:=Mp.adn inj h1 h3 K hkey r1;exact hK w' s' hs' hm' r2.grown
end
end Gr
end
namespace Gr
abbrev Bt:=List UInt8
def below(path:Bt)(top:Bool)(nm:Bt):Bt:=if top then nm else path++47::nm
end Gr
section
open Go.Maps (Keyed)
namespace Gr
theorem lawS:Keyed qp0 9:=Maps.string_keyed underlying9
end Gr
end
section
open Go.Maps (Keyed)
namespace Ov
def clV(v:List UInt8):Value:=.agg #[.string ⟨v.toArray⟩,.bool false]
def G6(m:Plain.Lv):List UInt8->Option Value:=fun k=>(m k).map clV
def Lvl(w:World)(b s:Nat)(m:Plain.Lv):Prop:=Gr.Mp Gr.mkS qp0 9 w b s (G6 m)
structure Tab(w:World)(tb rb cap:Nat)(B:Nat->Nat)(m:Nat->Plain.Lv)(N:Nat):Prop where
 hd:w.cell? ⟨tb,0,none⟩=some (.slice (some ⟨rb,0,none⟩) 4 cap)
 row:∀ i,i<4->w.cell? ⟨rb,i,none⟩=some (.map (some (B i)))
 lv:∀ i,i<4->∃ s,s<=N/\Lvl w (B i) s (m i)
 inj:∀ i j,i<4->j<4->B i=B j->i=j
 c4:4<=cap
 cm:cap<=9223372036854775807
structure Tn(b0:Nat)(w w':World):Prop where
 keeps:Keeps w w'
 bJ:Below b0 w w'
theorem Tn.refl(b0:Nat)(w:World):Tn b0 w w:=⟨Keeps.refl w,Below.refl _ _⟩
theorem Tn.trans{b0:Nat}{a b c:World}(h:Tn b0 a b)(k:Tn b0 b c):Tn b0 a c:=⟨h.keeps.trans k.keeps,h.bJ.trans k.bJ⟩
theorem Tn.of{b0:Nat}{w w':World}(h:Below w.heap.size w w')(hb:b0<=w.heap.size):Tn b0 w w':=⟨Below.keeps h,h.mono hb⟩
theorem Tab.below{w w':World}{tb rb cap N:Nat}{B:Nat->Nat}{m:Nat->Plain.Lv}(h:Tab w tb rb cap B m N)(hb:Below w.heap.size w w'):Tab w' tb rb cap B m N :=⟨Below.keeps hb _ _ h.hd,fun i hi=>Below.keeps hb _ _ (h.row i hi),fun i hi=>by obtain⟨s,h1,h2⟩:=h.lv i hi;exact⟨s,h1,Gr.Mp.below h2 hb h2.lt⟩,h.inj,h.c4,h.cm⟩
theorem Tab.mono{w:World}{tb rb cap N M:Nat}{B:Nat->Nat}{m:Nat->Plain.Lv}(h:Tab w tb rb cap B m N)(hN:N<=M):Tab w tb rb cap B m M :=⟨h.hd,h.row,fun i hi=>by obtain⟨s,h1,h2⟩:=h.lv i hi;exact⟨s,by omega,h2⟩,h.inj,h.c4,h.cm⟩
theorem Tab.congr{w:World}{tb rb cap N:Nat}{B:Nat->Nat}{m m':Nat->Plain.Lv}(h:Tab w tb rb cap B m N)(e:∀ i,i<4->m' i=m i):Tab w tb rb cap B m' N :=⟨h.hd,h.row,fun i hi=>by rw[e i hi];exact h.lv i hi,h.inj,h.c4,h.cm⟩
theorem Tab.lt{w:World}{tb rb cap N:Nat}{B:Nat->Nat}{m:Nat->Plain.Lv}(h:Tab w tb rb cap B m N)(i:Nat)(hi:i<4):B i<w.heap.size:=by obtain⟨s,_,h2⟩:=h.lv i hi;exact h2.lt
theorem Tab.turn{w w':World}{tb rb cap N:Nat}{B:Nat->Nat}{m:Nat->Plain.Lv}(h:Tab w tb rb cap B m N){i s:Nat}(hi:i<4){m1:Plain.Lv}{M:Nat}(hM:N<=M)(hs:s<=M)(h1:Lvl w' (B i) s m1)(hg:w.grownBy w' (some (B i))):Tab w' tb rb cap B (fun j=>if j=i then m1 else m j) M/\∀ b0,(∀ j,j<4->b0<=B j)->Tn b0 w w':=by
 obtain⟨s0,hs0,hm0⟩:=h.lv i hi;have hk:Keeps w w':=hm0.keeps hg;refine⟨⟨hk _ _ h.hd,fun j hj=>hk _ _ (h.row j hj),fun j hj=>?_,h.inj,h.c4,h.cm⟩,fun b0 hb=>⟨hk,Gr.nX hg (hb i hi) (tT (hb i hi) (qb8 hm0.lt))⟩⟩;by_cases e:j=i
 .subst e;exact⟨s,hs,by rw[if_pos rfl];exact h1⟩
 .obtain⟨sj,hsj,Zo⟩:=h.lv j hj;refine⟨sj,by omega,?_⟩;rw[if_neg e];exact Zo.kept hg (fun e2=>e (h.inj j i hj hi (pQ e2)))
theorem aal(m:Plain.Lv)(k v:List UInt8)(hv:v≠[]):∀ x,Gr.upd (G6 m) k (clV v) x=G6 (Plain.yc m (k,v)) x:=fun x=>by
 unfold Gr.upd G6 Plain.yc;by_cases h:x=k
 .simp only[if_pos h,if_neg hv,MK]
 .simp only[if_neg h]
theorem aaV(m:Plain.Lv)(k:List UInt8):∀ x,Gr.del (G6 m) k x=G6 (Plain.yc m (k,[])) x:=fun x=>by
 unfold Gr.del G6 Plain.yc;by_cases h:x=k
 .simp only[if_pos h,if_true,Option.map_none]
 .simp only[if_neg h]
theorem Wh(m:Plain.Lv)(k:List UInt8):∀ x,Gr.del (G6 m) k x=G6 (Plain.vw m (k,[])) x:=fun x=>by
 unfold Gr.del G6 Plain.vw;by_cases h:x=k
 .simp[h]
 .simp[h]
theorem Ux(m:Plain.Lv)(p:Pr)(hv:p.2≠[]):Plain.vw m p=m:=by
 funext y;unfold Plain.vw;rw[if_neg (fun h=>hv h.1)]
theorem ZA(tb rb cap N i:Nat)(B:Nat->Nat)(m:Nat->Plain.Lv)(k v:List UInt8)(w:World)(h:Tab w tb rb cap B m N)(hi:i<4)(hN:N<1000000000000)(hv:v≠[])(hk:k.length<=9223372036854775807):Calls qp0 245 #[.pointer (some ⟨tb,0,none⟩),.int .i64 i,.string ⟨k.toArray⟩,clV v] w fun e w'=>e=.returned (.int .i64 0) /\
   Tab w' tb rb cap B (fun j=>if j=i then Plain.yc (m i) (k,v) else m j) (N+1)/\∀ b0,(∀ j,j<4->b0<=B j)->Tn b0 w w':=by
 have hc4:=h.c4;have hcm:=h.cm;have HH:=ah (fun (w':World)(hb:Below w.heap.size w w')=>h.below hb);have HKEY:=ah (Gr.Jm (P:=qp0) underlying9 hk);have HI:=ah hi;have HLT:=ah (h.lt i hi);clear h;unfold clV;go_enter func245,ntmps245;go_upto_region 1 with fail
 have hb1:Below w.heap.size w (w.alloc (.cells #[.string ⟨v.toArray⟩,.bool false] 283)):=(Below.refl _ _).alloc (aY _) _;have hT:=HH.out _ hb1;have hc0:(w.alloc (.cells #[.string ⟨v.toArray⟩,.bool false] 283)).heap[w.heap.size]? = some (.cells #[.string ⟨v.toArray⟩,.bool false] 283 (0,0)):=JL;generalize w.alloc (.cells #[.string ⟨v.toArray⟩,.bool false] 283)=w1 at *
 have hr0:w1.cell? ⟨w.heap.size,0,none⟩=some (.string ⟨v.toArray⟩):=by simp[World.cell?,hc0]
 have hr1:w1.cell? ⟨w.heap.size,1,none⟩=some (.bool false):=by simp[World.cell?,hc0]
 have h1:=hT.hd;have h2:=hT.row i hi;have hi1:¬ ((i:Int)<0):=by omega
 have hi2:(i:Int)<4:=by omega
 have hi3:¬ ((4:Int)<=(i:Int)):=by omega
 obtain⟨s,hs,hm⟩:=hT.lv i hi;have HT:=ah hT;have HM:=ah hm;have HSS:=ah hs;have HB1:=ah hb1;have HC0:=ah hc0;clear hT hm hs hb1 hc0;go_upto_region 3 with fail
 go_still_tail 9,(by kernel_rfl)
 change wpList _ _ _ _ _ w1.drew
 go_wp2_with (at_mapUpdate;refine Gr.uT rfl _ _ _ 280 rfl 283 Gr.lawS underlying280 rfl (HM.out.block (w':=w1.drew) rfl) (by have:=HSS.out;unfold maxLen;omega) _ k rfl HKEY.out (clV v) rfl Gr.Bj ?_;intro w5 hm5 hg5)
 go_ret;have ET:w1.grownBy w5 (some (B i)):=⟨hg5.os,hg5.tape,hg5.output,hg5.size,hg5.block⟩;have hl:Lvl w5 (B i) (if (G6 (m i) k).isSome then s else s+1) (Plain.yc (m i) (k,v)):=hm5.congr fun x=>aal (m i) k v hv x
 obtain⟨h7,h8⟩:=HT.out.turn HI.out (M:=N+1) (by omega) (by have:=HSS.out;split <;> omega) hl ET;refine⟨rfl,h7,fun b0 hb0=>(Tn.of HB1.out ?_).trans (h8 b0 hb0)⟩;have h9:=HLT.out;have h10:=hb0 i HI.out;omega
theorem aa2(tb rb cap N i:Nat)(B:Nat->Nat)(m:Nat->Plain.Lv)(k v:List UInt8)(w:World)(h:Tab w tb rb cap B m N)(hi:i<4)(hN:N<1000000000000)(hv:v≠[])(hk:k.length<=9223372036854775807):Calls qp0 218 #[.pointer (some ⟨tb,0,none⟩),.int .i64 i,.string ⟨k.toArray⟩,.string ⟨v.toArray⟩] w fun e w'=>e=.returned (.int .i64 0) /\
   Tab w' tb rb cap B (fun j=>if j=i then Plain.yc (m i) (k,v) else m j) (N+1)/\∀ b0,(∀ j,j<4->b0<=B j)->Tn b0 w w':=by
 have HP:=ah (ZA tb rb cap N i B m k v w h hi hN hv hk);go_enter func218,ntmps218;go_wp2_with (go_at_call 245;refine(HP.out).mono ?_;rintro e w1 ⟨rfl,h2⟩;have HQ:=ah h2;clear h2)
 go_ret;exact⟨rfl,HQ.out⟩
def EN(m:Nat->Plain.Lv)(L:Nat)(l:List Pr):Nat->Plain.Lv:=fun j=>if j=L then Plain.lays (m L) l else if L=3/\j=1 then Plain.hides (m 1) l else m j
theorem ZI(m:Nat->Plain.Lv)(L:Nat):∀ j,j<4->m j=EN m L [] j:=fun j _=>by
 unfold EN;split
 .rename_i h;rw[h];rfl
 .split
  .rename_i h;rw[h.2];rfl
  .rfl
theorem Wj(m:Nat->Plain.Lv)(L:Nat)(l:List Pr)(k:Nat)(hk:k<l.length)(hv:(l.getD k ([],[])).2≠[]):∀ j,j<4->EN m L (l.take (k+1)) j=(if j=L then Plain.yc (EN m L (l.take k) L) (l.getD k ([],[])) else EN m L (l.take k) j):=fun j _=>by
 unfold EN;rw[Plain.yH _ _ _ hk,Plain.Dp _ _ _ hk,Ux _ _ hv];split
 .simp
 .rfl
theorem abw(m:Nat->Plain.Lv)(L:Nat)(hL:L≠3)(l:List Pr)(k:Nat)(hk:k<l.length):∀ j,j<4->EN m L (l.take (k+1)) j=(if j=L then Plain.yc (EN m L (l.take k) L) (l.getD k ([],[])) else EN m L (l.take k) j):=fun j _=>by
 unfold EN;rw[Plain.yH _ _ _ hk];split
 .simp
 .simp[hL]
theorem aaL(m:Nat->Plain.Lv)(l:List Pr)(k:Nat)(hk:k<l.length):∀ j,j<4->EN m 3 (l.take (k+1)) j=(if j=1 then Plain.vw (EN m 3 (l.take k) 1) (l.getD k ([],[])) else if j=3 then Plain.yc (EN m 3 (l.take k) 3) (l.getD k ([],[])) else EN m 3 (l.take k) j):=fun j _=>by
 unfold EN;rw[Plain.yH _ _ _ hk,Plain.Dp _ _ _ hk];by_cases h3:j=3
 .subst h3;simp
 .by_cases h1:j=1
  .subst h1;simp
  .simp[h1,h3]
theorem Br(tb rb cap N L:Nat)(B:Nat->Nat)(m:Nat->Plain.Lv)(a:Option Addr)(n c:Nat)(l:List Pr)(w:World)(h:Tab w tb rb cap B m N)(hL:L<4)(hp:uD w a n c l)(hn:n<=4194304)(hN:N<=16777216)(hk:∀ p∈l,p.1.length<=9223372036854775807):Calls qp0 190 #[.pointer (some ⟨tb,0,none⟩),.int .i64 L,.slice a n c] w fun e w'=>e=.returned (.tuple #[])/\Tab w' tb rb cap B (EN m L l) (N+n)/\∀ b0,(∀ j,j<4->b0<=B j)->Tn b0 w w':=by
 have hll:=hp.len;have hc:=hp.cap;have hm:=hp.max;have HL:=ah hll;clear hll;have HK:=ah hk;clear hk;have HP:=ah hp;clear hp;have HT0:=ah (h.congr fun j hj=>(ZI m L j hj).symm);clear h;go_enter func190,ntmps190;go_wp2
 go_loopw [10] (fun i wr=>∃ k:Nat,k<=n/\i=.int .i64 k/\Hid (Tab wr tb rb cap B (EN m L (l.take k)) (N+k))/\Hid (∀ b0,(∀ j,j<4->b0<=B j)->Tn b0 w wr)) (fun i _=>n-(intOf i).toNat)
 case atStart=>exact⟨0,M8 _,rfl,HT0,ah fun b0 _=>Tn.refl b0 w⟩
 case round =>
  obtain⟨k,hkn,rfl,HT,HN⟩:=hrel;by_cases hlt:k<n
  .have hkl:k<l.length:=by rw[HL.out];exact hlt
   obtain⟨pb,off,rfl,h0,h1⟩:=((HN.out 0 (fun _ _=>M8 _)).keeps.Sq HP.out).at k hlt;have hki:(k:Int)<n:=by omega
   have hmem:l.getD k ([],[])∈l:=by rw[List.getD,kM hkl];exact VE hkl
   have hkey:=Gr.Jm (P:=qp0) underlying9 (HK.out _ hmem);have hfull:=Wj m L l k hkl;have hone:=fun hL3=>abw m L hL3 l k hkl
   have acd:=aaL m l k hkl;generalize hg:l.getD k ([],[])=g at h0 h1 hkey hfull hone acd;have QE:=HK.out _ hmem;rw[hg] at QE;obtain⟨gk,gv⟩:=g;simp only at h0 h1 hkey hfull QE;have HKL:=ah QE;have HKEY:=ah hkey;have AP:=ah hone;have agh:=ah acd;have afQ:=ah hfull;have Ro:=ah hL;clear hkey hone acd hfull hmem hg hkl QE;go_upto_region 3 with fail
   have hb1:Below wr.heap.size wr (wr.alloc (.cells #[.string ⟨gk.toArray⟩,.string ⟨gv.toArray⟩] 160)):=(Below.refl _ _).alloc (aY _) _;have hc0:(wr.alloc (.cells #[.string ⟨gk.toArray⟩,.string ⟨gv.toArray⟩] 160)).heap[wr.heap.size]? = some (.cells #[.string ⟨gk.toArray⟩,.string ⟨gv.toArray⟩] 160 (0,0)):=JL;generalize wr.alloc (.cells #[.string ⟨gk.toArray⟩,.string ⟨gv.toArray⟩] 160)=w1 at *
   have d0:w1.cell? ⟨wr.heap.size,0,none⟩=some (.string ⟨gk.toArray⟩):=by simp[World.cell?,hc0]
   have d1:w1.cell? ⟨wr.heap.size,1,none⟩=some (.string ⟨gv.toArray⟩):=by simp[World.cell?,hc0]
   have HT1:=ah (HT.out.below hb1);have HB1:=ah hb1;have HN1:=ah (fun b0 (hb0:∀ j,j<4->b0<=B j)=>(HN.out b0 hb0).trans (Tn.of HB1.out (by have:=HT.out.lt 0 (by omega);have:=hb0 0 (by omega);omega)));clear hb1 hc0 HT HN h0 h1;by_cases hgv:gv=[]
   .subst hgv;have h1:=HT1.out.hd;have h2:=HT1.out.row L hL;have hi2:(L:Int)<4:=by omega
    obtain⟨s,hs,hm2⟩:=HT1.out.lv L hL;have HM:=ah hm2;have HSS:=ah hs;have hgb:(([]:List UInt8).isEmpty)=true:=rfl;have hc4:=HT1.out.c4;have hcm:=HT1.out.cm;have Yo:=ah (fun (w2:World) (s':Nat) (hs':s'<=s) (hm3:Gr.Mp Gr.mkS qp0 9 w2 (B L) s' (Gr.del (G6 (EN m L (l.take k) L)) gk)) (hg:w1.grownBy w2 (some (B L)))=>HT1.out.turn (i:=L) (s:=s') Ro.out (M:=N+k) (by omega) (by omega) (hm3.congr fun x=>aaV _ gk x) hg);clear hm2 hs;by_cases hL3:L=3
    .have agw:((L:Int)==3)=true:=by rw[beq_iff_eq];omega
     have HL3:=ah hL3;clear hL3;go_upto_region 5 with fail
     go_still_tail 9,(by kernel_rfl)
     change wpList _ _ _ _ _ w1.drew
     go_upto_region 7 with(at_delete;refine Gr.oL rfl _ _ 280 rfl 283 Gr.lawS underlying280 rfl (HM.out.block (w':=w1.drew) rfl) _ gk rfl HKEY.out Gr.Bj ?_;intro w2 s2 hs2 hm2 hg2;have HM2:=ah hm2;have HS2:=ah hs2;have HG2:Hid (w1.grownBy w2 (some (B L))):=ah ⟨hg2.os,hg2.tape,hg2.output,hg2.size,hg2.block⟩;clear hs2 hm2 hg2)
     obtain⟨h7,h8⟩:=Yo.out w2 s2 HS2.out HM2.out HG2.out;have HT7:=ah h7;have HN8:=ah h8;have h1':=h7.hd;have h2':=h7.row 1 (by omega);have d0':w2.cell? ⟨wr.heap.size,0,none⟩=some (.string ⟨gk.toArray⟩):=(h8 0 (fun _ _=>M8 _)).keeps _ _ d0;obtain⟨t,ht,hm4⟩:=h7.lv 1 (by omega);have HM4:=ah hm4;have HTS:=ah ht;clear h7 h8 hm4 ht h1 h2 d0 d1 Yo HM;go_still_tail 8,(by kernel_rfl)
     change wpList _ _ _ _ _ w2.drew
     go_wp2_with (at_delete;refine Gr.oL rfl _ _ 280 rfl 283 Gr.lawS underlying280 rfl (HM4.out.block (w':=w2.drew) rfl) _ gk rfl HKEY.out Gr.Bj ?_;intro w3 s3 hs3 hm3 hg3;have HM3:=ah hm3;have KY:=ah hs3;have HG3:Hid (w2.grownBy w3 (some (B 1))):=ah ⟨hg3.os,hg3.tape,hg3.output,hg3.size,hg3.block⟩;clear hs3 hm3 hg3)
     obtain⟨h9,h10⟩:=HT7.out.turn (i:=1) (s:=s3) (by omega) (M:=N+k) (aY _) (by have:=KY.out;have:=HTS.out;omega) (HM3.out.congr fun x=>Wh _ gk x) HG3.out;refine⟨⟨k+1,by omega,by go_num,ah ((h9.congr fun j hj=>?_).mono (by omega)),ah fun b0 hb0=>((HN1.out b0 hb0).trans (HN8.out b0 hb0)).trans (h10 b0 hb0)⟩,by simp[intOf];omega⟩;have h11:=agh.out j hj;have e:=HL3.out;subst e;rw[h11];by_cases hj1:j=1
     .subst hj1;simp
     .simp[hj1]
    .have agw:((L:Int)==3)=false:=by rw[beq_eq_false_iff_ne];omega
     have HL3:=ah hL3;clear hL3;go_upto_region 5 with fail
     go_still_tail 9,(by kernel_rfl)
     change wpList _ _ _ _ _ w1.drew
     go_wp2_with (at_delete;refine Gr.oL rfl _ _ 280 rfl 283 Gr.lawS underlying280 rfl (HM.out.block (w':=w1.drew) rfl) _ gk rfl HKEY.out Gr.Bj ?_;intro w2 s2 hs2 hm2 hg2;have HM2:=ah hm2;have HS2:=ah hs2;have HG2:Hid (w1.grownBy w2 (some (B L))):=ah ⟨hg2.os,hg2.tape,hg2.output,hg2.size,hg2.block⟩;clear hs2 hm2 hg2)
     obtain⟨h7,h8⟩:=Yo.out w2 s2 HS2.out HM2.out HG2.out;exact⟨⟨k+1,by omega,by go_num,ah ((h7.congr (AP.out HL3.out)).mono (by omega)),ah fun b0 hb0=>(HN1.out b0 hb0).trans (h8 b0 hb0)⟩,by simp[intOf];omega⟩
   .have hgb:gv.isEmpty=false:=by simpa using hgv
    have hfl:=afQ.out hgv;have acT:=ah (aa2 tb rb cap (N+k) L B _ gk gv w1 HT1.out Ro.out (by omega) hgv HKL.out);have UR:=ah hfl;clear hfl hgv;go_wp2_with (go_at_call 218;refine(acT.out).mono ?_;rintro e w2 ⟨rfl,h2,h3⟩;have HT2:=ah h2;have UL:=ah h3;clear h2 h3)
    exact⟨⟨k+1,by omega,by go_num,ah ((HT2.out.congr UR.out).mono (by omega)),ah fun b0 hb0=>(HN1.out b0 hb0).trans (UL.out b0 hb0)⟩,by simp[intOf];omega⟩
  .obtain rfl:k=n:=by omega
   have hki:¬ (k:Int)<k:=by omega
   go_wp2
   go_end0;refine⟨rfl,?_,HN.out⟩;have:=HT.out
   rwa [MU (by rw[HL.out];exact aY _)] at this
end Ov
end
section
namespace Gr
theorem gJ{w w':World}{base:Nat}{e:TypeId}{sz:Nat}{v:Value}{n:Nat}{xs:List Value}(h:w.ownsRow base e sz v n xs)(hk:∀ k,v.ownBlock=some k->w'.heap[k]? = w.heap[k]?):w'.ownsRow base e sz v n xs:=by
 obtain⟨h1,h2⟩:=h;refine⟨h1,?_⟩;rcases h2 with h2|⟨g,cap,cur,hv,hg,hh,r⟩
 .exact Or.inl h2
 .exact Or.inr ⟨g,cap,cur,hv,hg,by rw[hk g (by rw[hv];rfl)];exact hh,r⟩
theorem QZ{w:World}{B:Nat}{t:TypeId}{sz n:Nat}{v:Value}{xs:List Value}(h:w.ownsRow B t sz v n xs){b:Nat}(hb:v.ownBlock=some b):∃ cur,w.heap[b]? = some (.cells cur t (0,0)):=by
 rcases h.2 with⟨rfl,_⟩|⟨g,cap,cur,rfl,_,hh,_⟩
 .simp[Value.ownBlock] at hb
 .simp only[Value.ownBlock,Ba,MK] at hb;subst hb;exact⟨cur,hh⟩
theorem aN{w:World}{B:Nat}{t t':TypeId}{sz n:Nat}{v:Value}{xs:List Value}(h:w.ownsRow B t sz v n xs){b:Nat}{cs:Array Value}{fr:Nat×Nat}(hr:w.heap[b]? = some (.cells cs t' fr))(ht:t≠t'):v.ownBlock≠some b:=by
 intro e;obtain⟨cur,hc⟩:=QZ h e;rw[hr] at hc;simp only[Ba,Obj.cells.injEq] at hc;exact ht hc.2.1.symm
theorem aX{w w':World}{B:Nat}{t:TypeId}{sz n:Nat}{v:Value}{xs:List Value}(h:w.ownsRow B t sz v n xs){row:Option Nat}(hg:w.grownBy w' row)(hne:v.ownBlock=none\/v.ownBlock≠row):w'.ownsRow B t sz v n xs :=gJ h fun k hk=>hg.block k (h.lt k hk).2 (by rcases hne with hn|hn;rw[hn] at hk;cases hk;exact fun e=>hn (by rw[hk,e]))
theorem aU{w w':World}{b:Nat}{o:Obj}(h:w.heap[b]? = some o)(k:Below w.heap.size w w'):w'.heap[b]? = some o:=by
 rw[k.block b (fT.1 h).1];exact h
theorem aen{w:World}{b:Nat}{o:Obj}(h:w.heap[b]? = some o):b<w.heap.size:=(fT.1 h).1
theorem aZ{w w':World}{b:Nat}{o:Obj}{row:Option Nat}(h:w.heap[b]? = some o)(hg:w.grownBy w' row)(hne:some b≠row):w'.heap[b]? = some o:=by
 rw[hg.block b (aen h) hne];exact h
theorem aD(w:World)(b j:Nat)(v:Value):w.grownBy (w.setCell ⟨b,j,none⟩ v) (some b) :=⟨rfl,rfl,rfl,by simp,fun k hk hne=>RowKit.Below.heap_setCell _ _ _ _ (fun e=>hne (by simp only at e;rw[e]))⟩
theorem aO{w:World}{b j:Nat}{cs:Array Value}{t:TypeId}(h:w.heap[b]? = some (.cells cs t))(v:Value):(w.setCell ⟨b,j,none⟩ v).heap[b]? = some (.cells (cs.setIfInBounds j v) t):=by
 simp only[World.setCell];rw[qa3,h];simp
theorem aG{w:World}{b:Nat}{cs:Array Value}{t:TypeId}(h:w.heap[b]? = some (.cells cs t))(j:Nat):w.cell? ⟨b,j,none⟩=cs[j]?:=by rw[cell_of_row _ _ _ _ _ _ h]
theorem aS{w:World}{b:Nat}{cs:Array Value}{t:TypeId}(h:w.heap[b]? = some (.cells cs t))(j:Nat):w.frozen? ⟨b,j,none⟩=false:=frozen_of_row _ _ _ _ _ h
theorem Mp.yU{κ:Type}{mk:κ->Lit}{P:Program}{k:TypeId}{w:World}{b s:Nat}{f:κ->Option Value}(h:Mp mk P k w b s f){B:Nat}{t:TypeId}{sz n:Nat}{v:Value}{xs:List Value}(ho:w.ownsRow B t sz v n xs):some b≠v.ownBlock:=by
 intro e;obtain⟨cur,hc⟩:=QZ ho e.symm;obtain⟨D,⟨es,clock,h1,_⟩,_⟩:=h;rw[h1] at hc
 cases hc
section
variable {P:Program}
end
end Gr
end
section
open Go.Maps (Keyed)
namespace Ov
open Gr (aZ aD aN aO aX aG aS aU)
def mpV(b:Nat):Value:=.map (some b)
theorem aci:(qp0.info? 280).map (fun i=>(i.zero,i.size,i.bytes))=some (some (.map none),1,8):=by kernel_rfl
structure AO(w:World)(a:Option Addr)(c:Nat)(bs:List Nat)(wr:World):Prop where
 row:wr.heap[w.heap.size]? = some (.cells #[.slice a bs.length c] 279)
 own:wr.ownsRow (w.heap.size+1) 280 1 (.slice a bs.length c) bs.length (bs.map mpV)
 lv:∀ b∈bs,w.heap.size<b/\Lvl wr b 0 Plain.JN
 nd:bs.Nodup
 bJ:Below w.heap.size w wr
theorem AO.lt{w wr:World}{a:Option Addr}{c:Nat}{bs:List Nat}(h:AO w a c bs wr):w.heap.size<wr.heap.size:=(fT.1 h.row).1
theorem AO.grow{w wr w':World}{a:Option Addr}{c:Nat}{bs:List Nat}(h:AO w a c bs wr)(hb:Below wr.heap.size wr w'):AO w a c bs w' :=⟨by rw[hb.block _ h.lt];exact h.row,h.own.kept (Gr.below_grown hb none) (by cases (Value.slice a bs.length c).ownBlock <;> simp),
 fun b hbs=>⟨(h.lv b hbs).1,Gr.Mp.below (h.lv b hbs).2 hb (h.lv b hbs).2.lt⟩,h.nd,Below.seq h.bJ hb⟩
def rdW(wr:World):World:=(wr.alloc (.map #[] 0)).alloc (.cells #[.map (some wr.heap.size)] 280)
theorem zq(wr:World):Below wr.heap.size wr (rdW wr):=((Below.refl _ _).alloc (aY _) _).alloc (by simp) _
theorem aa9(wr:World):wh (rdW wr) 1 (some ⟨wr.heap.size+1,0,none⟩) 1 1 [mpV wr.heap.size]:=by
 have:=pq (wr.alloc (.map #[] 0)) 280 1 1 #[mpV wr.heap.size] rfl (by unfold maxLen;omega);have e:(wr.alloc (.map #[] 0)).heap.size=wr.heap.size+1:=by simp
 rw[e] at this;exact this
theorem aaD(wr:World):Lvl (rdW wr) wr.heap.size 0 Plain.JN:=by
 have h:=Gr.Mp.made Gr.mkS wr qp0 9;exact Gr.Mp.below h ((Below.refl _ _).alloc (aY _) _) h.lt
theorem AO.app{w wr w3:World}{a a':Option Addr}{c c':Nat}{bs:List Nat}(h:AO w a c bs wr)(hg:(rdW wr).grownBy w3 (Value.slice a bs.length c).ownBlock)(ho:w3.ownsRow (w.heap.size+1) 280 1 (.slice a' (bs.length+1) c') (bs.length+1) (bs.map mpV++[mpV wr.heap.size])):w3.heap[w.heap.size]? = some (.cells #[.slice a bs.length c] 279)/\AO w a' c' (bs++[wr.heap.size]) (w3.setCell ⟨w.heap.size,0,none⟩ (.slice a' (bs.length+1) c')):=by
 have h1:=h.grow (zq wr);have hr:w3.heap[w.heap.size]? = some (.cells #[.slice a bs.length c] 279):=aZ h1.row hg (fun e=>aN h1.own h1.row (by decide) e.symm);have hgs:=aD w3 w.heap.size 0 (.slice a' (bs.length+1) c');refine⟨hr,?_,?_,?_,?_,?_⟩
 .have:=aO hr (j:=0) (.slice a' (bs.length+1) c');simpa using this
 .have:=aX ho hgs (Or.inr (aN ho hr (by decide)));simpa using this
 .intro b hb;have hl:∀ {b:Nat},w.heap.size<b->Lvl (rdW wr) b 0 Plain.JN->Lvl (w3.setCell ⟨w.heap.size,0,none⟩ (.slice a' (bs.length+1) c')) b 0 Plain.JN:=fun {b} hlt hm=>by
   refine Gr.Mp.kept (Gr.Mp.kept hm hg ?_) hgs (fun e=>by have:=pQ e;omega);exact Gr.Mp.yU hm h1.own
  rcases UY.1 hb with hb|hb
  .exact⟨(h.lv b hb).1,hl (h.lv b hb).1 (h1.lv b hb).2⟩
  .rw[qbk] at hb;subst hb;exact⟨h.lt,hl h.lt (aaD wr)⟩
 .rw[List.nodup_append];refine⟨h.nd,by simp,fun x hx y hy=>?_⟩;rw[qbk] at hy;subst hy;have:=(h.lv x hx).2.lt;omega
 .have h2:Below w.heap.size w w3:=h1.bJ.grown hg (tT (qb8 h.lt) (zq wr).size) fun k hk=>by have:=(h1.own.lt k hk).1;omega
  exact h2.setCell (aY _) _
theorem AO.tab{w wr:World}{a:Option Addr}{c:Nat}{bs:List Nat}(h:AO w a c bs wr)(h4:bs.length=4):∃ (rb:Nat)(B:Nat->Nat),Tab wr w.heap.size rb c B (fun _=>Plain.JN) 0/\∀ j,j<4->w.heap.size<=B j:=by
 have hs:=rP h.own;rw[h4] at hs;have hbs:∀ j,j<4->∃ x,bs[j]? = some x:=fun j hj=>⟨bs[j]'(by omega),kM (by omega)⟩
 have hcell:∀ j x,bs[j]? = some x->∃ rb off,a=some ⟨rb,off,none⟩/\wr.cell? ⟨rb,off+j,none⟩=some (mpV x):=fun j x hx=>hs.2.2.2.1.at j _ (by rw[qcw,hx];rfl)
 have ho:=h.own;rw[h4] at ho;obtain⟨g,cap,cur,hv,_⟩:=(ho.2.resolve_left (by rintro⟨hv,h0⟩;omega));simp only[Value.slice.injEq,true_and] at hv;obtain⟨rfl,rfl⟩:=hv;refine⟨g,fun j=>bs.getD j 0,⟨?_,fun i hi=>?_,fun i hi=>?_,fun i j hi hj e=>?_,hs.2.1,hs.2.2.1⟩,fun j hj=>?_⟩
 .rw[aG h.row,h4];rfl
 .obtain⟨x,hx⟩:=hbs i hi;obtain⟨rb,off,he,hc⟩:=hcell i x hx;simp only[Ba,Addr.mk.injEq,and_true] at he;obtain⟨rfl,rfl⟩:=he;rw[lU] at hc;rw[hc];simp[List.getD,hx,mpV]
 .obtain⟨x,hx⟩:=hbs i hi;refine⟨0,aY _,?_⟩;simp only[List.getD,hx,Option.getD_some];exact(h.lv x (qbb hx)).2
 .obtain⟨x,hx⟩:=hbs i hi;obtain⟨y,hy⟩:=hbs j hj;simp only[List.getD,hx,hy,Option.getD_some] at e;subst e;exact(List.getElem?_inj (by omega) h.nd).1 (hx.trans hy.symm)
 .obtain⟨x,hx⟩:=hbs j hj;simp only[List.getD,hx,Option.getD_some];exact qb8 (h.lv x (qbb hx)).1
def ag3(w:World)(e:Ending)(w':World):Prop:=∃ (tb rb cap:Nat)(B:Nat->Nat),e=.returned (.pointer (some ⟨tb,0,none⟩))/\Tab w' tb rb cap B (fun _=>Plain.JN) 0/\(∀ j,j<4->w.heap.size<=B j)/\Below w.heap.size w w'
theorem aad(w:World):Calls qp0 189 #[.int .i64 4] w (ag3 w):=by
 have HN0:Hid (AO w none 0 [] (w.alloc (.cells #[.slice none 0 0] 279))):=ah ⟨JL,World.ownsRow_nil _ _ _ _,fun b hb=>(by cases hb),List.nodup_nil,(Below.refl _ _).alloc (aY _) _⟩;go_enter func189,ntmps189;go_wp2
 go_loopw [9] (fun i wr=>∃ (k:Nat)(a:Option Addr)(c:Nat)(bs:List Nat),k<=4/\i=.int .i64 k/\bs.length=k/\Hid (AO w a c bs wr)) (fun i _=>4-(intOf i).toNat)
 case atStart=>exact⟨0,none,0,[],by omega,rfl,rfl,HN0⟩
 case round =>
  obtain⟨k,a,c,bs,hk,rfl,hbl,HI⟩:=hrel;by_cases hlt:k<4
  .have hki:(k:Int)<4:=by omega
   have hcell:wr.cell? ⟨w.heap.size,0,none⟩=some (.slice a k c):=by rw[aG HI.out.row,hbl];rfl
   have Zp:=ah hbl;clear hbl;have hmm:=@run_makeMap qp0;go_upto_region 5 with(at_builtin;refine nJ rfl _ _ 277 rfl (w.heap.size+1) 280 _ 1 8 underlying277 aci rfl (by decide) (by decide) rfl (by have:=((HI.out.grow (zq wr)).own);rw[Zp.out] at this;exact this) rfl (aa9 wr) (by intro u hu;simp at hu;subst hu;rfl) (by omega) (by have:=HI.out.lt;simp;omega) ?_;intro a3 c3 w3 ho3 hg3;have HA:=HI.out.app (a':=a3) (c':=c3) (w3:=w3) (by rw[Zp.out];exact hg3) (by rw[Zp.out];exact ho3);rw[Zp.out] at HA;have HA:=ah HA;clear ho3 hg3;have hx1:=aG HA.out.1 0;have hx2:=aS HA.out.1 0)
   have HA2:=ah HA.out.2;clear hx1 hx2 HA;go_wp2
   exact⟨⟨k+1,a3,c3,bs++[wr.heap.size],by omega,by go_num,by rw[vG,Zp.out];rfl,HA2⟩,by simp[intOf];omega⟩
  .obtain rfl:k=4:=by omega
   have hki:¬ ((4:Nat):Int)<4:=by omega
   obtain⟨rb,B,h1,h2⟩:=HI.out.tab hbl;have HT:=ah h1;have HB:=ah h2;clear h1 h2;go_wp2
   go_ret;exact⟨_,rb,c,B,rfl,HT.out,HB.out,HI.out.bJ⟩
end Ov
end
section
open Go.Maps (Keyed)
namespace Ov
open Gr (aZ aD aN aO aX aG aS aU)
def Gb(m:Nat->Plain.Lv)(k:List UInt8):Nat->Option (List UInt8)
 | 0=>none
 | j+1=>match m j k with|some v=>some v|none=>Gb m k j
theorem PU(m:Nat->Plain.Lv)(k:List UInt8):Gb m k 4=Plain.JF (m 0) (m 1) (m 2) (m 3) k:=by
 unfold Plain.JF;simp only[Gb]
 cases m 3 k with
 | some v=>rfl
 | none=>cases m 2 k with
  | some v=>rfl
  | none=>cases m 1 k with
   | some v=>rfl
   | none=>cases m 0 k <;> rfl
theorem zeroCell(w:World):(zeroValue 283).run qp0 w=.ok (.agg #[.string ⟨#[]⟩,.bool false]) w:=by kernel_rfl
def abm(r:Option (List UInt8)):Value:=.tuple #[.string ⟨(r.getD []).toArray⟩,.bool r.isSome]
theorem Q6(tb rb cap N:Nat)(B:Nat->Nat)(m:Nat->Plain.Lv)(k:List UInt8)(w:World)(h:Tab w tb rb cap B m N)(hk:k.length<=9223372036854775807):Calls qp0 192 #[.pointer (some ⟨tb,0,none⟩),.string ⟨k.toArray⟩] w fun e w'=>e=.returned (abm (Plain.JF (m 0) (m 1) (m 2) (m 3) k))/\Below w.heap.size w w':=by
 rw[<-PU];generalize hr:Gb m k 4=r;have HR:=ah hr;clear hr;have HKEY:=ah (Gr.Jm (P:=qp0) underlying9 hk);have h0:=h.hd;have hc4:=h.c4;have hcm:=h.cm;have HT:=ah h;clear h;go_enter func192,ntmps192;go_wp2
 go_loopw [6] (fun i wr=>∃ j:Nat,j<=4/\i=.int .i64 ((j:Int) - 1)/\Hid (Gb m k j=r)/\Hid (Below w.heap.size w wr)) (fun i _=>(intOf i+1).toNat)
 case atStart=>exact⟨4,by omega,rfl,HR,ah (Below.refl _ _)⟩
 case round =>
  obtain⟨j,hj,rfl,hrj,hbel⟩:=hrel;have h0':=Below.keeps hbel.out _ _ h0
  cases j with
  | zero =>
   obtain rfl:r=none:=by rw[<-hrj.out];rfl
   go_wp2
   go_ret2;exact⟨rfl,hbel.out⟩
  | succ j =>
   have e:((j+1:Nat):Int) - 1=(j:Int):=by omega
   rw[e];clear e;have hj4:(j:Int)<4:=by omega
   have HTr:=ah (HT.out.below hbel.out);have h1:=HTr.out.row j (by omega);obtain⟨s,hs,hm⟩:=HTr.out.lv j (by omega);have HM:=ah hm;clear hm;have hrr:=hrj.out;simp only[Gb] at hrr
   cases Zo:m j k with
   | none =>
    rw[Zo] at hrr;have HRR:=ah hrr;have HV:Hid ((G6 (m j) k).getD (.agg #[.string ⟨#[]⟩,.bool false])=.agg #[.string ⟨#[]⟩,.bool false]):=ah (by simp[G6,Zo]);have HO:Hid ((G6 (m j) k).isSome=false):=ah (by simp[G6,Zo]);clear hrr Zo;go_wp2_with (at_lookup;refine Gr.mE rfl _ _ 280 rfl 283 Gr.lawS underlying280 (zeroCell _) rfl HM.out _ k rfl HKEY.out _ _ HV.out HO.out ?_)
    exact⟨⟨j,by omega,by go_num,HRR,ah (hbel.out.alloc hbel.out.size _)⟩,by simp[intOf]⟩
   | some v =>
    rw[Zo] at hrr;obtain rfl:some v=r:=hrr;have HV:Hid ((G6 (m j) k).getD (.agg #[.string ⟨#[]⟩,.bool false])=.agg #[.string ⟨v.toArray⟩,.bool false]):=ah (by simp[G6,Zo,clV]);have HO:Hid ((G6 (m j) k).isSome=true):=ah (by simp[G6,Zo]);clear Zo;go_wp2_with (at_lookup;refine Gr.mE rfl _ _ 280 rfl 283 Gr.lawS underlying280 (zeroCell _) rfl HM.out _ k rfl HKEY.out _ _ HV.out HO.out ?_)
    go_quiet (fail)
    go_wp2
    go_ret2;exact⟨rfl,Below.drewN (hbel.out.alloc hbel.out.size _) _⟩
theorem qM(tb rb cap N:Nat)(B:Nat->Nat)(m:Nat->Plain.Lv)(k:List UInt8)(plain most:Int)(w:World)(ev:Value)(h:Tab w tb rb cap B m N)(hk:k.length<=9223372036854775807)(hE:eO w ev)(x:List UInt8)(hx:Plain.JF (m 0) (m 1) (m 2) (m 3) k=Plain.full x)(hxl:x.length<=140737488351232):Calls qp0 191 #[.pointer (some ⟨tb,0,none⟩),.string ⟨k.toArray⟩,.int .i64 plain,.int .i64 most] w fun e w' =>
   e=.returned (.tuple #[.int .i64 (if x=[] then(plain,true) else((Plain.decimal x).1,decide ((Plain.decimal x).2=0)&&decide ((Plain.decimal x).1<=most))).1,.bool (if x=[] then(plain,true) else((Plain.decimal x).1,decide ((Plain.decimal x).2=0)&&decide ((Plain.decimal x).1<=most))).2])/\Below w.heap.size w w':=by
 have HG:=ah (Q6 tb rb cap N B m k w h hk);rw[hx] at HG;by_cases hx0:x=[]
 .rw[if_pos hx0];subst hx0;clear hx;have HG2:Hid (Calls qp0 192 #[.pointer (some ⟨tb,0,none⟩),.string ⟨k.toArray⟩] w fun e w'=>e=.returned (.tuple #[.string ⟨#[]⟩,.bool false])/\Below w.heap.size w w'):=HG;go_enter func191,ntmps191;go_wp2_with (go_at_call 192;refine(HG2.out).mono ?_;rintro e w1 ⟨rfl,h2⟩;have HB:=ah h2;clear h2)
  go_ret2;exact⟨rfl,HB.out⟩
 .rw[if_neg hx0];have HD:=ah (fun w1 (hb:Below w.heap.size w w1)=>lM x w1 ev hxl (hE.below hb));have HG2:Hid (Calls qp0 192 #[.pointer (some ⟨tb,0,none⟩),.string ⟨k.toArray⟩] w fun e w'=>e=.returned (.tuple #[.string ⟨x.toArray⟩,.bool true])/\Below w.heap.size w w'):=by
   unfold Plain.full at HG;rw[if_neg hx0] at HG;exact HG
  clear hx HG;generalize Plain.decimal x=d at *
  obtain⟨d1,d2⟩:=d;simp only[nU] at HD ⊢;go_enter func191,ntmps191;go_wp2_with (first|(go_at_call 192;refine(HG2.out).mono ?_;rintro e w1 ⟨rfl,h2⟩;have HB:=ah h2;clear h2)|(go_at_call 219;refine(HD.out _ HB.out).mono ?_;rintro e w2 ⟨rfl,h2⟩;have HB2:=ah (Below.seq HB.out h2);clear h2))
  all_goals
   go_ret2;refine⟨?_,HB2.out⟩
   simp_all
end Ov
end
namespace Ov
theorem MJ(l:List Pr)(k:Nat)(h:k<l.length):Plain.sparse (l.take (k+1))=(Plain.sparse (l.take k)||Lib.hasPrefix (l.getD k ([],[])).1 wP):=by
 unfold Plain.sparse;rw[Nh h,List.any_append];simp[List.getD,kM h]
theorem KJ(l:List Pr)(k:Nat)(h:k<l.length)(hp:Lib.hasPrefix (l.getD k ([],[])).1 wP=true):Plain.sparse l=true:=by
 unfold Plain.sparse;rw[List.any_eq_true];refine⟨l[k],VE h,?_⟩;have:l.getD k ([],[])=l[k]:=by simp[List.getD,kM h]
 rwa [this] at hp
theorem mH(a:Option Addr)(n c:Nat)(l:List Pr)(w:World)(h:uD w a n c l):Calls qp0 188 #[.slice a n c] w fun e w'=>e=.returned (.bool (Plain.sparse l))/\Below w.heap.size w w':=by
 have hll:=h.len;have hc:=h.cap;have hm:=h.max;have HL:=ah hll;clear hll;have HP:=ah h;clear h;generalize hr:Plain.sparse l=r;have HR:=ah hr;clear hr;go_enter func188,ntmps188;go_wp2
 go_loopw [7] (fun i wr=>∃ k:Nat,k<=n/\i=.int .i64 k/\Hid (Plain.sparse (l.take k)=false)/\Hid (Below w.heap.size w wr)) (fun i _=>n-(intOf i).toNat)
 case atStart=>exact⟨0,M8 _,rfl,ah rfl,ah (Below.refl _ _)⟩
 case round =>
  obtain⟨k,hkn,rfl,HS,HB⟩:=hrel;by_cases hlt:k<n
  .have hkl:k<l.length:=by rw[HL.out];exact hlt
   obtain⟨pb,off,rfl,h0,h1⟩:=(Below.Sq HB.out HP.out).at k hlt;have hki:(k:Int)<n:=by omega
   have ht:=MJ l k hkl;have hh:=KJ l k hkl;rw[HS.out,Bool.false_or] at ht;generalize hg:l.getD k ([],[])=g at h0 h1 ht hh;obtain⟨gk,gv⟩:=g;simp only at h0 h1 ht hh;have hpre:=Tryz.strings_HasPrefix ⟨gk.toArray⟩ ⟨wP.toArray⟩;simp only[qzl] at hpre
   cases hb:Lib.hasPrefix gk wP with
   | true =>
    rw[hb] at hpre hh;have HH:=ah (hh rfl);have aej:=ah hpre;clear hpre hh ht hb hg hkl;go_wp2_with (go_at_call 173;refine(aej.out _).mono ?_;rintro e w1 ⟨rfl,hw⟩;obtain rfl:=hw.symm)
    go_ret;exact⟨by rw[<-HR.out,HH.out];rfl,HB.out.alloc HB.out.size _⟩
   | false =>
    rw[hb] at hpre ht;have HT:=ah ht;have aej:=ah hpre;clear hpre hh ht hb hg hkl;go_wp2_with (go_at_call 173;refine(aej.out _).mono ?_;rintro e w1 ⟨rfl,hw⟩;obtain rfl:=hw.symm)
    exact⟨⟨k+1,by omega,by go_num,HT,ah (HB.out.alloc HB.out.size _)⟩,by simp[intOf];omega⟩
  .obtain rfl:k=n:=by omega
   have hki:¬ (k:Int)<k:=by omega
   have hs:=HS.out;rw[MU (by rw[HL.out];exact aY _),HR.out] at hs;subst hs;go_wp2
   go_ret;exact⟨rfl,HB.out⟩
theorem Pk(ty:UInt8)(name:List UInt8)(w:World)(hn:name.length<=140737488355328):Calls qp0 194 #[.int .u8 (ty.toNat:Int),.string ⟨name.toArray⟩] w fun e w'=>e=.returned (.int .i64 (Plain.oo ty name))/\w=w':=by
 have aec:=Tryz.strings_HasSuffix ⟨name.toArray⟩ ⟨#[47]⟩;have hz:(⟨name.toArray⟩:ByteArray).size<=9223372036854775807:=by show name.length<=_;omega
 simp only[qzl] at aec;have hty:∀ n:Nat,n<256->((ty=UInt8.ofNat n)↔((ty.toNat:Int)=n)):=fun n hn=>by
  constructor
  .rintro rfl;simp;omega
  .intro h;have h:ty.toNat=n:=by omega
   rw[<-h,UInt8.ofNat_toNat]
 have e48:=hty 48 (by omega);have e49:=hty 49 (by omega);have e50:=hty 50 (by omega);have e53:=hty 53 (by omega);have hb:=ty.toNat_lt;generalize hr:Plain.oo ty name=r;unfold Plain.oo at hr;simp only[show(48:UInt8)=UInt8.ofNat 48 from rfl,show(49:UInt8)=UInt8.ofNat 49 from rfl,show(50:UInt8)=UInt8.ofNat 50 from rfl,show(53:UInt8)=UInt8.ofNat 53 from rfl,e48,e49,e50,e53] at hr;have HR:=ah hr;generalize hs:Lib.hasSuffix name [47]=s at *
 have HS:=ah (fun w=>aec w hz);clear hr aec e48 e49 e50 e53 hty hs;go_enter func194,ntmps194;go_wp2_with (go_at_call 52;refine(HS.out _).mono ?_;rintro e w1 ⟨rfl,hw⟩;obtain rfl:=hw.symm)
 all_goals
  go_ret;refine⟨?_,rfl⟩;rw[<-HR.out]
  simp_all
end Ov
def aQ(t:Int×Int):Array Value:=#[.int .i64 t.1,.int .i64 t.2]
theorem Sy(t:Int×Int):∀ u∈(aQ t).toList,u.oneCell'=true:=by
 intro u hu;simp[aQ] at hu;rcases hu with h|h <;> subst h <;> rfl
theorem Yg(t:Int×Int):(qp0.info? 40).map (·.size)=some (aQ t).size:=by
 have h:(qp0.info? 40).map (·.size)=some 2:=by kernel_rfl
 rw[h];rfl
def uF(w:World):Prop:=∃ m:Int,w.cell? ⟨0,0,none⟩=some (.int .i64 m)
theorem uF.below{w w':World}(h:uF w)(k:Below w.heap.size w w'):uF w':=by
 obtain⟨m,h⟩:=h;exact⟨m,Below.keeps k _ _ h⟩
structure Tm1(w0 w:World)(c:Int×Int):Prop where
 row:w.heap[w0.heap.size]? = some (.cells (aQ c) 40 (0,0))
 bJ:Below w0.heap.size w0 w
theorem Tm1.keep{w0 w w':World}{c:Int×Int}(h:Tm1 w0 w c)(k:Below w.heap.size w w'):Tm1 w0 w' c :=⟨by rw[k.block _ (fT.1 h.row).1];exact h.row,Below.seq h.bJ k⟩
theorem Tm1.new(w:World):Tm1 w (w.alloc (.cells (aQ (0,0)) 40)) (0,0):=⟨heap_alloc_new w _,(Below.refl _ _).alloc (aY _) _⟩
theorem abh(s p:List UInt8):(Lib.cut s p).1.length<=s.length/\(Lib.cut s p).2.1.length<=s.length:=by
 unfold Lib.cut;split
 .exact⟨by simp;omega,by simp⟩
 .exact⟨aY _,by simp⟩
structure Qu(w0 w:World)(c:Int×Int)(g:Nat)(t:Int×Int):Prop extends Tm1 w0 w c where
 xZ:w.heap[g]? = some (.cells (aQ t) 40 (0,0))
 gt:w0.heap.size<g
theorem Qu.keep{w0 w w':World}{c t:Int×Int}{g:Nat}(h:Qu w0 w c g t)(k:Below w.heap.size w w'):Qu w0 w' c g t :=⟨h.toTm1.keep k,by rw[k.block _ (fT.1 h.xZ).1];exact h.xZ,h.gt⟩
theorem Qu.set{w0 w:World}{c t:Int×Int}{g:Nat}(h:Qu w0 w c g t)(t':Int×Int):Qu w0 (w.setRow g (aQ t')) c g t' :=⟨⟨by rw[setRow_other w g w0.heap.size _ (by have:=h.gt;omega)];exact h.row,Below.setRow h.bJ (qb8 h.gt) _⟩,setRow_heap _ _ _ _ _ _ h.xZ,h.gt⟩
theorem Tm1.lay{w0 w:World}{c:Int×Int}(h:Tm1 w0 w c)(t:Int×Int):Qu w0 ((w.alloc (.cells (aQ (0,0)) 40)).setRow w.heap.size (aQ t)) c w.heap.size t:=by
 have hlt:=(fT.1 h.row).1;have h2:Qu w0 (w.alloc (.cells (aQ (0,0)) 40)) c w.heap.size (0,0):=⟨h.keep ((Below.refl _ _).alloc (aY _) _),heap_alloc_new w _,hlt⟩;exact h2.set t
theorem Ym(p:List UInt8):((⟨p.toArray⟩:ByteArray)++⟨#[48,48,48,48,48,48,48,48,48]⟩).extract 0 9=⟨(Plain.iU p).toArray⟩:=by
 apply qb2;simp[qbB,Plain.iU]
theorem BN(l:List UInt8):0<=(Plain.decimal l).1:=by
 unfold Plain.decimal;split
 .exact U4 0
 .split
  .exact Int.natCast_nonneg _
  .first|exact U4 0|decide|simp
theorem XE(s p:List UInt8)(h:(Lib.cut s p).2.2=false):(Lib.cut s p).2.1=[]:=by
 unfold Lib.cut at h ⊢;split
 .rename_i h2;rw[if_pos h2] at h;cases h
 .rfl
theorem CX(s p:List UInt8):(Lib.trimPrefix s p).length<=s.length:=by
 unfold Lib.trimPrefix;split <;> simp
theorem BQ(l:List UInt8)(w:World)(ev:Value)(hl:l.length<=140737488351232)(hm:uF w)(he:eO w ev):Calls qp0 193 #[.string ⟨l.toArray⟩] w fun e w'=>e=.returned (.tuple #[.agg (aQ (Plain.jv l).1),.int .i64 (Plain.jv l).2])/\Below w.heap.size w w':=by
 generalize hr:Plain.jv l=r;have HR:=ah hr;clear hr;have qj:=ah Yg;have F6:=ah Sy;by_cases c0:64<l.length
 .obtain rfl:r=((0,0),21):=by rw[<-HR.out];exact if_pos c0
  have c0i:(64:Int)<(l.length:Int):=by omega
  clear HR c0;have HT:=ah (Tm1.new w);go_enter func193,ntmps193;go_upto_region 1 with fail
  have hT:Tm1 w (w.alloc (.cells #[.int .i64 0,.int .i64 0] 40)) (0,0):=HT.out;generalize w.alloc (.cells #[.int .i64 0,.int .i64 0] 40)=wa at *
  have HA:=ah hT;clear hT HT;go_wp2_with (with_reducible refine wpList_store_row rfl 40 _ _ rfl w.heap.size rfl (aQ (0,0)) rfl (aQ (0,0)) 40 HA.out.row rfl (qj.out _) (F6.out _) ?_)
  exact bodyPost_ret (results_cell_tmp rfl _ _ w.heap.size 40 (aQ (0,0)) (0,0) _ _ rfl rfl (setRow_heap _ _ _ _ _ _ HA.out.row) underlying40 rfl (qj.out _)) rfl ⟨rfl,Below.setRow HA.out.bJ (aY _) _⟩
 .have c0i:¬ (64:Int)<(l.length:Int):=by omega
  have hp:=Tryz.strings_CutPrefix ⟨l.toArray⟩ ⟨#[45]⟩;have hrr:=HR.out;unfold Plain.jv at hrr;rw[if_neg c0] at hrr;have hs1:=CX l [45];have hcl:=abh (Lib.trimPrefix l [45]) [46];have hcp:∀ w,Calls qp0 220 #[.string ⟨l.toArray⟩,.string ⟨#[45]⟩] w fun e w'=>e=.returned (.tuple #[.string ⟨(Lib.trimPrefix l [45]).toArray⟩,.bool (Lib.hasPrefix l [45])])/\w'=w:=hp
  clear hp;generalize Lib.trimPrefix l [45]=s1 at hrr hs1 hcl hcp;generalize Lib.hasPrefix l [45]=mi at hrr hcp;have hct:∀ w,uF w->Calls qp0 221 #[.string ⟨s1.toArray⟩,.string ⟨#[46]⟩] w fun e w'=>e=.returned (.tuple #[.string ⟨(Lib.cut s1 [46]).1.toArray⟩,.string ⟨(Lib.cut s1 [46]).2.1.toArray⟩,.bool (Lib.cut s1 [46]).2.2])/\Below w.heap.size w w':=by
   rintro w ⟨m,hm⟩;refine(Tryz.strings_Cut ⟨s1.toArray⟩ ⟨#[46]⟩ m w (by show s1.toArray.size<_;rw[rJ];omega) hm).mono ?_;rintro e w1 ⟨he,n,rfl⟩;exact⟨he,Below.drewN (Below.refl _ _) n⟩
  have hcn:=XE s1 [46];generalize Lib.cut s1 [46]=c at hrr hcl hct hcn;obtain⟨W,Pt,Dt⟩:=c;simp only at hrr hcl hct hcn;have HCN:=ah hcn;clear hcn;have Kr:Hid (Plain.lY Pt=true->Pt.all bg=true):=ah Plain.OP;have HCP:=ah hcp;have HCT:=ah hct;have HDW:=ah (fun w=>BR W w (by omega));have HDP:=ah (fun w=>BR Pt w (by omega));have HDE:Hid (∀ w,eO w ev->Calls qp0 219 #[.string ⟨W.toArray⟩] w fun e w'=>e=.returned (nU (Plain.decimal W))/\Below w.heap.size w w'):=ah (fun w h=>lM W w ev (by omega) h);have HM:=ah hm;have HE:=ah he;clear hcp hct hm he HR;have HRR:=ah hrr;clear hrr;have HT:=ah (Tm1.new w);go_enter func193,ntmps193;go_upto_region 1 with fail
  have hT:Tm1 w (w.alloc (.cells #[.int .i64 0,.int .i64 0] 40)) (0,0):=HT.out;generalize w.alloc (.cells #[.int .i64 0,.int .i64 0] 40)=wa at *
  have HA:=ah hT;clear hT HT;go_upto_region 5 with(first|(go_at_call 220;(with_reducible refine(HCP.out _).mono ?_);rintro e w1 ⟨rfl,hw⟩;obtain rfl:=hw.symm)|(go_at_call 221;(with_reducible refine(HCT.out _ (HM.out.below HA.out.bJ)).mono ?_);rintro e w1 ⟨rfl,hb1⟩;have HA1:=ah (HA.out.keep hb1);clear hb1))
  have HWD:Hid (Plain.lY W=Plain.lY W):=ah rfl;generalize Plain.lY Pt=bp at *
  generalize Plain.lY W=bw at *
  have early:∀ w2,Tm1 w w2 (0,0)->r=((0,0),20)->True:=fun _ _ _=>trivial
  clear early
  cases hbad:(Dt&&!bp||!bw) with
  | true =>
   have hr:r=((0,0),20):=by rw[<-HRR.out,if_pos hbad]
   subst hr;clear HRR HCN Kr HWD HDE
   cases Dt with
   | false =>
    cases bw with
    | true=>cases hbad
    | false =>
     clear hbad;go_wp2_with (first|(go_at_call 222;(with_reducible refine(HDW.out _).mono ?_);rintro e w2 ⟨rfl,hb2⟩;have HA2:=ah (HA1.out.keep hb2);clear hb2)|(with_reducible refine wpList_store_row rfl 40 _ _ rfl w.heap.size rfl (aQ (0,0)) rfl (aQ (0,0)) 40 HA2.out.row rfl (qj.out _) (F6.out _) ?_))
     exact bodyPost_ret (results_cell_tmp rfl _ _ w.heap.size 40 (aQ (0,0)) (0,0) _ _ rfl rfl (setRow_heap _ _ _ _ _ _ HA2.out.row) underlying40 rfl (qj.out _)) rfl ⟨rfl,Below.setRow HA2.out.bJ (aY _) _⟩
   | true =>
    cases bp with
    | false =>
     clear hbad;go_wp2_with (first|(go_at_call 222;(with_reducible refine(HDP.out _).mono ?_);rintro e w2 ⟨rfl,hb2⟩;have HA2:=ah (HA1.out.keep hb2);clear hb2)|(with_reducible refine wpList_store_row rfl 40 _ _ rfl w.heap.size rfl (aQ (0,0)) rfl (aQ (0,0)) 40 HA2.out.row rfl (qj.out _) (F6.out _) ?_))
     exact bodyPost_ret (results_cell_tmp rfl _ _ w.heap.size 40 (aQ (0,0)) (0,0) _ _ rfl rfl (setRow_heap _ _ _ _ _ _ HA2.out.row) underlying40 rfl (qj.out _)) rfl ⟨rfl,Below.setRow HA2.out.bJ (aY _) _⟩
    | true =>
     cases bw with
     | true=>cases hbad
     | false =>
      clear hbad;go_wp2_with (first|(go_at_call 222;(with_reducible refine(HDP.out _).mono ?_);rintro e w2 ⟨rfl,hb2⟩;have HA2:=ah (HA1.out.keep hb2);clear hb2)|(go_at_call 222;(with_reducible refine(HDW.out _).mono ?_);rintro e w3 ⟨rfl,hb3⟩;have Bq:=ah (HA2.out.keep hb3);clear hb3)|(with_reducible refine wpList_store_row rfl 40 _ _ rfl w.heap.size rfl (aQ (0,0)) rfl (aQ (0,0)) 40 Bq.out.row rfl (qj.out _) (F6.out _) ?_))
      exact bodyPost_ret (results_cell_tmp rfl _ _ w.heap.size 40 (aQ (0,0)) (0,0) _ _ rfl rfl (setRow_heap _ _ _ _ _ _ Bq.out.row) underlying40 rfl (qj.out _)) rfl ⟨rfl,Below.setRow Bq.out.bJ (aY _) _⟩
  | false =>
   have hbw:bw=true:=by revert hbad;cases Dt <;> cases bp <;> cases bw <;> simp
   subst hbw;have hpd:Pt.all bg=true:=by
    cases Dt with
    | false=>rw[HCN.out rfl];rfl
    | true=>exact Kr.out (by revert hbad;cases bp <;> simp)
   have hrr:=HRR.out;rw[if_neg (by rw[hbad];simp)] at hrr;have hd0:0<=(Plain.decimal W).1:=BN W;have hde:=HDE.out;generalize Plain.decimal W=d at hrr hd0 hde;obtain⟨d1,d2⟩:=d;simp only[nU] at hrr hd0 hde;have Z9:=ah hde;have aeO:=ah hpd;have Mf:=ah hrr;have hbp:Dt=true->bp=true:=by revert hbad;cases Dt <;> cases bp <;> simp
   clear HRR HCN Kr HWD HDE hrr hde hpd hbad;have h2:True:=trivial
   cases Dt
   case' false =>
    clear hbp;go_upto_region 7 with(go_at_call 222;(with_reducible refine(HDW.out _).mono ?_);rintro e w2 ⟨rfl,hb2⟩;have HA2:=ah (HA1.out.keep hb2);clear hb2)
    go_upto_region 8 with(go_at_call 219;(with_reducible refine(Z9.out _ (HE.out.below HA2.out.bJ)).mono ?_);rintro e w3 ⟨rfl,hb3⟩;have Bq:=ah (HA2.out.keep hb3);clear hb3)
    clear HA2 HA1 HA Z9 HCP HCT HDP HDW
   case' true =>
    obtain rfl:=hbp rfl;go_upto_region 7 with(first|(go_at_call 222;(with_reducible refine(HDP.out _).mono ?_);rintro e wp ⟨rfl,hbq⟩;have HAp:=ah (HA1.out.keep hbq);clear hbq)|(go_at_call 222;(with_reducible refine(HDW.out _).mono ?_);rintro e w2 ⟨rfl,hb2⟩;have HA2:=ah (HAp.out.keep hb2);clear hb2))
    go_upto_region 8 with(go_at_call 219;(with_reducible refine(Z9.out _ (HE.out.below HA2.out.bJ)).mono ?_);rintro e w3 ⟨rfl,hb3⟩;have Bq:=ah (HA2.out.keep hb3);clear hb3)
    clear HA2 HA1 HA Z9 HCP HCT HDP HDW
   all_goals
    by_cases h10:d2=10
    .subst h10;obtain rfl:r=((0,0),20):=by rw[<-Mf.out];rfl
     clear Mf;go_wp2_with (with_reducible refine wpList_store_row rfl 40 _ _ rfl w.heap.size rfl (aQ (0,0)) rfl (aQ (0,0)) 40 Bq.out.row rfl (qj.out _) (F6.out _) ?_)
     exact bodyPost_ret (results_cell_tmp rfl _ _ w.heap.size 40 (aQ (0,0)) (0,0) _ _ rfl rfl (setRow_heap _ _ _ _ _ _ Bq.out.row) underlying40 rfl (qj.out _)) rfl ⟨rfl,Below.setRow Bq.out.bJ (aY _) _⟩
    .by_cases h0:d2=0
     .subst h0;by_cases hbig:1099511627776<d1
      .obtain rfl:r=((0,0),11):=by rw[<-Mf.out,if_neg h10,if_pos (.inr hbig)]
       clear Mf;go_wp2_with (with_reducible refine wpList_store_row rfl 40 _ _ rfl w.heap.size rfl (aQ (0,0)) rfl (aQ (0,0)) 40 Bq.out.row rfl (qj.out _) (F6.out _) ?_)
       exact bodyPost_ret (results_cell_tmp rfl _ _ w.heap.size 40 (aQ (0,0)) (0,0) _ _ rfl rfl (setRow_heap _ _ _ _ _ _ Bq.out.row) underlying40 rfl (qj.out _)) rfl ⟨rfl,Below.setRow Bq.out.bJ (aY _) _⟩
      .have hrr:=Mf.out;rw[if_neg h10,if_neg (by rintro (h|h);exact h rfl;exact hbig h)] at hrr;have vR:=ah hrr;clear Mf hrr;have hbig':d1<=1099511627776:=by omega
       clear hbig;go_upto_region 12 with fail
       have hsz:((⟨Pt.toArray⟩:ByteArray)++⟨#[48,48,48,48,48,48,48,48,48]⟩).size=Pt.length+9:=by simp[ByteArray.size_append,ByteArray.size]
       have hat:∀ w,Calls qp0 223 #[.string ⟨(Plain.iU Pt).toArray⟩] w fun e w'=>e=.returned (.tuple #[.int .i64 (bD 0 (Plain.iU Pt):Nat),.nilIface])/\Below w.heap.size w w':=fun w=>by
        refine(Tryz.strconv_Atoi ⟨(Plain.iU Pt).toArray⟩ (bD 0 (Plain.iU Pt):Nat) (by show(Plain.iU Pt).toArray.size<=18;rw[rJ,Plain.vS];decide) (Plain.Xv _ (by intro h;have h2:=Plain.vS Pt;have h3:Plain.iU Pt=[]:=h;rw[h3] at h2;cases h2) (Plain.Dh Pt aeO.out)) w).mono ?_;rintro e w1 ⟨he,t,rfl⟩;exact⟨he,bytesWorld_below w _ _⟩
       have hnl:=Plain.aaJ Pt aeO.out;go_upto_region 13 with fail
       rw[Ym];generalize Plain.iU Pt=nine at *
       generalize bD 0 nine=N at *
       have HAT:=ah hat;clear hat hsz;go_upto_region 14 with(go_at_call 223;(with_reducible refine(HAT.out _).mono ?_);rintro e w4 ⟨rfl,hb4⟩;have HA4:=ah (Bq.out.keep hb4);clear hb4)
       clear HAT Bq;go_upto_region 15 with(with_reducible refine wpList_store_row rfl 40 _ _ rfl w4.heap.size rfl (aQ (d1,(N:Int))) rfl (aQ (0,0)) 40 (heap_alloc_new w4 _) rfl (qj.out _) (F6.out _) ?_)
       have hT2:Qu w ((w4.alloc (.cells #[.int .i64 0,.int .i64 0] 40)).setRow w4.heap.size (aQ (d1,(N:Int)))) (0,0) w4.heap.size (d1,(N:Int)):=HA4.out.lay _;generalize (w4.alloc (.cells #[.int .i64 0,.int .i64 0] 40)).setRow w4.heap.size (aQ (d1,(N:Int)))=w5 at *
       clear HA4;generalize w4.heap.size=g at *
       have HB:=ah hT2;clear hT2
       cases mi
       case' false =>
        have rY:Hid ((if Plain.valid (d1,(N:Int)).1 (d1,(N:Int)).2=true then((d1,(N:Int)),0) else((0,0),11))=r):=vR;clear vR;have HB2:=HB;clear HB;obtain⟨tm,EI⟩:∃ tm:Int×Int,(d1,(N:Int))=tm:=⟨_,rfl⟩
        have Jc:Hid ((if Plain.valid tm.1 tm.2=true then(tm,0) else((0,0),11))=r):=by subst EI;exact rY
        rw[EI] at HB2;clear EI rY
       case' true =>
        rcases Classical.em (9<Pt.length) with h9|h9
        case' inl =>
         have hex:(⟨Pt.toArray⟩:ByteArray).extract 9 Pt.length=⟨(Pt.drop 9).toArray⟩:=by
          apply qb2;simp[qbB];exact MU (by simp)
         have htr:∀ w,Calls qp0 224 #[.string ⟨(Pt.drop 9).toArray⟩,.string ⟨#[48]⟩] w fun e w'=>e=.returned (.string ⟨(Lib.trimB (Pt.drop 9) 48).toArray⟩)/\Below w.heap.size w w':=fun w=>by
          refine(Tryz.strings_Trim_one ⟨(Pt.drop 9).toArray⟩ 48 (by decide) w (by show(Pt.drop 9).toArray.size<=_;rw[rJ,zW];omega)).mono ?_;rintro e w1 ⟨he,rfl|rfl⟩
          .exact⟨he,Below.refl _ _⟩
          .exact⟨he,(Below.refl _ _).drew⟩
         have aeB:Plain.vY Pt=!(Lib.trimB (Pt.drop 9) 48).isEmpty:=by simp[Plain.vY,h9]
         generalize Lib.trimB (Pt.drop 9) 48=Z at *
         have HTR:=ah htr;clear htr
         cases hze:Z.isEmpty
         case' true =>
          have hmo:Plain.vY Pt=false:=by rw[aeB,hze];rfl
          by_cases hn:0<((N:Int))
          case' pos =>
           have rY:Hid ((if Plain.valid ((-d1 - 1,1000000000-((N:Int)))).1 ((-d1 - 1,1000000000-((N:Int)))).2=true then((-d1 - 1,1000000000-((N:Int))),0) else((0,0),11))=r):=ah (by have h:=vR.out;simp only[Plain.vN,hmo,if_true,jI,if_false,if_pos hn] at h;exact h);clear vR;go_upto_region 19 with(first|(go_at_call 224;(try rw[hex]);(with_reducible refine(HTR.out _).mono ?_);rintro e wt ⟨rfl,hbt⟩;have Zt:=ah (HB.out.keep hbt);clear hbt)|(with_reducible refine wpList_store_row rfl 40 _ _ rfl g rfl (aQ (-d1,(0:Int))) rfl (aQ (d1,(N:Int))) 40 Zt.out.xZ rfl (qj.out _) (F6.out _) ?_))
           go_upto_region 21 with(with_reducible refine wpList_store_row rfl 40 _ _ rfl g rfl (aQ (-d1 - 1,1000000000-((N:Int)))) rfl (aQ (-d1,(0:Int))) 40 (Zt.out.set (-d1,(0:Int))).xZ rfl (qj.out _) (F6.out _) ?_)
           have Rm:Qu w ((wt.setRow g (aQ (-d1,(0:Int)))).setRow g (aQ (-d1 - 1,1000000000-((N:Int))))) (0,0) g (-d1 - 1,1000000000-((N:Int))):=(Zt.out.set _).set _
           generalize (wt.setRow g (aQ (-d1,(0:Int)))).setRow g (aQ (-d1 - 1,1000000000-((N:Int))))=w7 at *
           have HB2:=ah Rm;clear Rm HB;obtain⟨tm,EI⟩:∃ tm:Int×Int,((-d1 - 1,1000000000-((N:Int))):Int×Int)=tm:=⟨_,rfl⟩
           have Jc:Hid ((if Plain.valid tm.1 tm.2=true then(tm,0) else((0,0),11))=r):=by subst EI;exact rY
           rw[EI] at HB2;clear EI rY
          case' neg =>
           have rY:Hid ((if Plain.valid ((-d1,(0:Int))).1 ((-d1,(0:Int))).2=true then((-d1,(0:Int)),0) else((0,0),11))=r):=ah (by have h:=vR.out;simp only[Plain.vN,hmo,if_true,jI,if_false,if_neg hn] at h;exact h);clear vR;go_upto_region 21 with(first|(go_at_call 224;(try rw[hex]);(with_reducible refine(HTR.out _).mono ?_);rintro e wt ⟨rfl,hbt⟩;have Zt:=ah (HB.out.keep hbt);clear hbt)|(with_reducible refine wpList_store_row rfl 40 _ _ rfl g rfl (aQ (-d1,(0:Int))) rfl (aQ (d1,(N:Int))) 40 Zt.out.xZ rfl (qj.out _) (F6.out _) ?_))
           have Rm:Qu w (wt.setRow g (aQ (-d1,(0:Int)))) (0,0) g (-d1,(0:Int)):=Zt.out.set _
           generalize wt.setRow g (aQ (-d1,(0:Int)))=w7 at *
           have HB2:=ah Rm;clear Rm HB;obtain⟨tm,EI⟩:∃ tm:Int×Int,((-d1,(0:Int)):Int×Int)=tm:=⟨_,rfl⟩
           have Jc:Hid ((if Plain.valid tm.1 tm.2=true then(tm,0) else((0,0),11))=r):=by subst EI;exact rY
           rw[EI] at HB2;clear EI rY
         case' false =>
          have hmo:Plain.vY Pt=true:=by rw[aeB,hze];rfl
          have h9i:(9:Int)<(Pt.length:Int):=by omega
          have hrx:=vR.out;simp only[Plain.vN,hmo,if_true] at hrx;clear vR;have vR:=ah hrx;clear hrx;go_upto_region 18 with(go_at_call 224;(try rw[hex]);(with_reducible refine(HTR.out _).mono ?_);rintro e wt ⟨rfl,hbt⟩;have Zt:=ah (HB.out.keep hbt);clear hbt)
          have hM1:0<(N:Int)+1:=by omega
          have hM2:(N:Int)+1<=1000000000:=by omega
          generalize (N:Int)+1=M at *
          by_cases hn:0<(M)
          case neg=>exact absurd hM1 hn
          case' pos =>
           have rY:Hid ((if Plain.valid ((-d1 - 1,1000000000-(M))).1 ((-d1 - 1,1000000000-(M))).2=true then((-d1 - 1,1000000000-(M)),0) else((0,0),11))=r):=ah (by have h:=vR.out;simp only[Plain.vN,hmo,if_true,jI,if_false,if_pos hn] at h;exact h);clear vR;go_upto_region 19 with(first|(with_reducible refine wpList_store_row rfl 40 _ _ rfl g rfl (aQ (-d1,(0:Int))) rfl (aQ (d1,(N:Int))) 40 Zt.out.xZ rfl (qj.out _) (F6.out _) ?_))
           go_upto_region 21 with(with_reducible refine wpList_store_row rfl 40 _ _ rfl g rfl (aQ (-d1 - 1,1000000000-(M))) rfl (aQ (-d1,(0:Int))) 40 (Zt.out.set (-d1,(0:Int))).xZ rfl (qj.out _) (F6.out _) ?_)
           have Rm:Qu w ((wt.setRow g (aQ (-d1,(0:Int)))).setRow g (aQ (-d1 - 1,1000000000-(M)))) (0,0) g (-d1 - 1,1000000000-(M)):=(Zt.out.set _).set _
           generalize (wt.setRow g (aQ (-d1,(0:Int)))).setRow g (aQ (-d1 - 1,1000000000-(M)))=w7 at *
           have HB2:=ah Rm;clear Rm HB;obtain⟨tm,EI⟩:∃ tm:Int×Int,((-d1 - 1,1000000000-(M)):Int×Int)=tm:=⟨_,rfl⟩
           have Jc:Hid ((if Plain.valid tm.1 tm.2=true then(tm,0) else((0,0),11))=r):=by subst EI;exact rY
           rw[EI] at HB2;clear EI rY
        case' inr =>
         have hmo:Plain.vY Pt=false:=by simp[Plain.vY,h9]
         by_cases hn:0<((N:Int))
         case' pos =>
          have rY:Hid ((if Plain.valid ((-d1 - 1,1000000000-((N:Int)))).1 ((-d1 - 1,1000000000-((N:Int)))).2=true then((-d1 - 1,1000000000-((N:Int))),0) else((0,0),11))=r):=ah (by have h:=vR.out;simp only[Plain.vN,hmo,if_true,jI,if_false,if_pos hn] at h;exact h);clear vR;go_upto_region 19 with(first|(with_reducible refine wpList_store_row rfl 40 _ _ rfl g rfl (aQ (-d1,(0:Int))) rfl (aQ (d1,(N:Int))) 40 HB.out.xZ rfl (qj.out _) (F6.out _) ?_))
          go_upto_region 21 with(with_reducible refine wpList_store_row rfl 40 _ _ rfl g rfl (aQ (-d1 - 1,1000000000-((N:Int)))) rfl (aQ (-d1,(0:Int))) 40 (HB.out.set (-d1,(0:Int))).xZ rfl (qj.out _) (F6.out _) ?_)
          have Rm:Qu w ((w5.setRow g (aQ (-d1,(0:Int)))).setRow g (aQ (-d1 - 1,1000000000-((N:Int))))) (0,0) g (-d1 - 1,1000000000-((N:Int))):=(HB.out.set _).set _
          generalize (w5.setRow g (aQ (-d1,(0:Int)))).setRow g (aQ (-d1 - 1,1000000000-((N:Int))))=w7 at *
          have HB2:=ah Rm;clear Rm HB;obtain⟨tm,EI⟩:∃ tm:Int×Int,((-d1 - 1,1000000000-((N:Int))):Int×Int)=tm:=⟨_,rfl⟩
          have Jc:Hid ((if Plain.valid tm.1 tm.2=true then(tm,0) else((0,0),11))=r):=by subst EI;exact rY
          rw[EI] at HB2;clear EI rY
         case' neg =>
          have rY:Hid ((if Plain.valid ((-d1,(0:Int))).1 ((-d1,(0:Int))).2=true then((-d1,(0:Int)),0) else((0,0),11))=r):=ah (by have h:=vR.out;simp only[Plain.vN,hmo,if_true,jI,if_false,if_neg hn] at h;exact h);clear vR;go_upto_region 21 with(first|(with_reducible refine wpList_store_row rfl 40 _ _ rfl g rfl (aQ (-d1,(0:Int))) rfl (aQ (d1,(N:Int))) 40 HB.out.xZ rfl (qj.out _) (F6.out _) ?_))
          have Rm:Qu w (w5.setRow g (aQ (-d1,(0:Int)))) (0,0) g (-d1,(0:Int)):=HB.out.set _
          generalize w5.setRow g (aQ (-d1,(0:Int)))=w7 at *
          have HB2:=ah Rm;clear Rm HB;obtain⟨tm,EI⟩:∃ tm:Int×Int,((-d1,(0:Int)):Int×Int)=tm:=⟨_,rfl⟩
          have Jc:Hid ((if Plain.valid tm.1 tm.2=true then(tm,0) else((0,0),11))=r):=by subst EI;exact rY
          rw[EI] at HB2;clear EI rY
       all_goals
        have OI:Hid (∀ w,Calls qp0 54 #[.agg (aQ tm)] w fun e w'=>e=.returned (.bool (Plain.valid tm.1 tm.2))/\Below w.heap.size w w'):=ah (fun w=>TQ _ _ w)
        cases hv:Plain.valid tm.1 tm.2 with
        | false =>
         rw[hv] at OI;obtain rfl:r=((0,0),11):=by rw[<-Jc.out,if_neg (by rw[hv];simp)]
         clear Jc hv;go_wp2_with (first|(with_reducible refine wpList_load_row rfl _ _ rfl g rfl 40 (aQ tm) (0,0) _ HB2.out.xZ underlying40 rfl (qj.out _) ?_)|(go_at_call 54;(with_reducible refine(OI.out _).mono ?_);rintro e w6 ⟨rfl,hb6⟩;have HC:=ah (HB2.out.keep hb6);clear hb6)|(with_reducible refine wpList_store_row rfl 40 _ _ rfl w.heap.size rfl (aQ (0,0)) rfl (aQ (0,0)) 40 HC.out.row rfl (qj.out _) (F6.out _) ?_))
         exact bodyPost_ret (results_cell_tmp rfl _ _ w.heap.size 40 (aQ (0,0)) (0,0) _ _ rfl rfl (setRow_heap _ _ _ _ _ _ HC.out.row) underlying40 rfl (qj.out _)) rfl ⟨rfl,Below.setRow HC.out.bJ (aY _) _⟩
        | true =>
         rw[hv] at OI;obtain rfl:r=(tm,0):=by rw[<-Jc.out,if_pos hv]
         clear Jc hv;go_wp2_with (first|(go_at_call 54;(with_reducible refine(OI.out _).mono ?_);rintro e w6 ⟨rfl,hb6⟩;have HC:=ah (HB2.out.keep hb6);clear hb6)|(with_reducible first|refine wpList_load_row rfl _ _ rfl g rfl 40 (aQ tm) (0,0) _ HC.out.xZ underlying40 rfl (qj.out _) ?_|refine wpList_load_row rfl _ _ rfl g rfl 40 (aQ tm) (0,0) _ HB2.out.xZ underlying40 rfl (qj.out _) ?_|refine wpList_store_row rfl 40 _ _ rfl w.heap.size rfl (aQ tm) rfl (aQ (0,0)) 40 HC.out.row rfl (qj.out _) (F6.out _) ?_))
         exact bodyPost_ret (results_cell_tmp rfl _ _ w.heap.size 40 (aQ tm) (0,0) _ _ rfl rfl (setRow_heap _ _ _ _ _ _ HC.out.row) underlying40 rfl (qj.out _)) rfl ⟨rfl,Below.setRow HC.out.bJ (aY _) _⟩
     .obtain rfl:r=((0,0),11):=by rw[<-Mf.out,if_neg h10,if_pos (.inl h0)]
      clear Mf;go_wp2_with (with_reducible refine wpList_store_row rfl 40 _ _ rfl w.heap.size rfl (aQ (0,0)) rfl (aQ (0,0)) 40 Bq.out.row rfl (qj.out _) (F6.out _) ?_)
      exact bodyPost_ret (results_cell_tmp rfl _ _ w.heap.size 40 (aQ (0,0)) (0,0) _ _ rfl rfl (setRow_heap _ _ _ _ _ _ Bq.out.row) underlying40 rfl (qj.out _)) rfl ⟨rfl,Below.setRow Bq.out.bJ (aY _) _⟩
def hFT(F:Int)(T:UInt8):Hd:={Hd.zero with form:=F,ty:=T}
theorem bY{P:Program}(t:TypeId){e:TypeId}{n:Nat}(ht:P.underlying t=some (.array n e))(hsz:(P.info? e).map (·.size)=some 1)(g:Nat)(lo hi:Option Int)(L M:Nat)(hL:match lo with|some p=>p=(L:Int)|none=>L=0)(hM:match hi with|some p=>p=(M:Int)|none=>M=n)(h1:L<=M)(h2:M<=n)(h3:L<n)(w:World):(Instr.sliceAt t (.pointer (some ⟨g,0,none⟩)) (lo.map (Value.int .i64)) (hi.map (Value.int .i64)) none).run P w=.ok (.slice (some ⟨g,L,none⟩) (M-L) (n-L)) w:=by
 obtain⟨i,hi',hs'⟩:=zA.1 hsz;have hne:¬ n=L:=by omega
 have e1:(L:Int)<=M:=by omega
 have e2:(M:Int)<=n:=by omega
 have e3:(L:Int)<=n:=by omega
 have f3:L<=n:=by omega
 have ha:(Addr.add ⟨g,0,none⟩ L)=(⟨g,L,none⟩:Addr):=by rw[Addr.add_lit,lU]
 cases lo <;> cases hi <;> simp only at hL hM
 all_goals first|subst hL|skip
 all_goals first|subst hM|skip
 all_goals simp[Instr.sliceAt,Instr.sureAddr,Instr.sliceBounds,Instr.sliceBound,run_underlying ht,sizeOf,typeInfo,hi',hs',asIntOf,hne,Result.andThen, *]
section
structure Two(w:World)(t:TypeId)(x y:List UInt8)(wr:World):Prop where
 bJ:Below w.heap.size w wr
 r0:wr.heap[w.heap.size]? = some (.cells (aL x) t (0,0))
 r1:wr.heap[w.heap.size+1]? = some (.cells (aL y) t (0,0))
theorem Two.new(w:World)(t:TypeId)(x y:List UInt8):Two w t x y ((w.alloc (.cells (aL x) t)).alloc (.cells (aL y) t)) :=⟨((Below.refl _ _).alloc (aY _) _).alloc (by simp) _,heap_alloc2_old _ _ _,heap_alloc2_new _ _ _⟩
theorem Two.keep{w wr w':World}{t:TypeId}{x y:List UInt8}(h:Two w t x y wr)(k:Below wr.heap.size wr w'):Two w t x y w':=by
 refine⟨Below.seq h.bJ k,?_,?_⟩
 .rw[k.block _ (fT.1 h.r0).1];exact h.r0
 .rw[k.block _ (fT.1 h.r1).1];exact h.r1
theorem Two.set{w wr:World}{t:TypeId}{x y:List UInt8}(h:Two w t x y wr)(k:Nat)(b:UInt8):Two w t (x.set k b) y (wr.setCell ⟨w.heap.size,k,none⟩ (.int .u8 (b.toNat:Int))):=by
 refine⟨h.bJ.setCell (by simp) _,?_,?_⟩
 .rw[heap_setCell_same _ _ _ _ _ _ h.r0,show(Value.int .u8 (b.toNat:Int))=jJ b from rfl,wQ]
 .rw[heap_setCell_other _ _ _ _ (by simp)];exact h.r1
theorem Two.agf{w wr:World}{t:TypeId}{x y:List UInt8}(h:Two w t x y wr)(k:Nat)(b:UInt8)(v:Int)(hv:(b.toNat:Int)=v):Two w t (x.set k b) y (wr.setCell ⟨w.heap.size,k,none⟩ (.int .u8 v)):=by
 rw[<-hv];exact h.set k b
theorem Two.row{w wr:World}{t:TypeId}{x y:List UInt8}(h:Two w t x y wr)(z:List UInt8):Two w t z y (wr.setRow w.heap.size (aL z)):=by
 refine⟨Below.setRow h.bJ (aY _) _,setRow_heap _ _ _ _ _ _ h.r0,?_⟩;rw[setRow_other _ _ _ _ (by omega)];exact h.r1
theorem Two.cell{w wr:World}{t:TypeId}{x y:List UInt8}(h:Two w t x y wr)(k:Nat)(hk:k<x.length):wr.cell? ⟨w.heap.size,k,none⟩=some (.int .u8 ((x.getD k 0).toNat:Int)):=by
 rw[cell_of_row _ _ _ _ _ _ h.r0,tF _ _ hk]
theorem Two.ac8{w wr:World}{t:TypeId}{x y:List UInt8}(h:Two w t x y wr)(k:Nat):wr.frozen? ⟨w.heap.size,k,none⟩=false:=frozen_of_row _ _ _ _ _ h.r0
section
variable {P:Program}{ops:Array Oper}{rest:List Oper}{o:Oper}{a:Act}{w:World}{Q:Exit->Act->World->Prop}
theorem qV(hgd:o.guard=none)(d s:Operand)(dT sT:TypeId)(ho:o.op=.call {callee:=.builtin .copy,args:=#[d,s],argTypes:=#[dT,sT]})(elem:TypeId)(hu:P.underlying dT=some (.slice elem))(hsz:(P.info? elem).map (·.size)=some 1)(g off dLen dCap:Nat)(hd:a.eval d=.slice (some ⟨g,off,none⟩) dLen dCap){sp:Option Addr}{n c:Nat}(hs:a.eval s=.slice sp n c)(l m:List UInt8){t:TypeId}(hg:w.heap[g]? = some (.cells (aL l) t (0,0)))(hm:Bs w sp n c m)(h0:0<n)(hn:n<=dLen)(hfit:off+n<=l.length)(h:wpList P ops Q rest (a.put o.dst (goInt n)) (w.setRow g (aL (l.take off++m++l.drop (off+n))))):wpList P ops Q (o::rest) a w:=by
 obtain rfl:=hm.len
 cases sp with
 | none=>have:=(hm.2.2.2.2 rfl).1;omega
 | some ad =>
  refine wpList_copy_own hgd d s dT sT ho elem hu hsz g off dLen dCap ad m.length c hd hs (aL l) t hg (m.map jJ) (by rw[V7];exact(Nat.min_eq_left hn).symm) (fun j v hj=>?_) (by rw[V7,eZ];exact hfit) (kY m) ?_
  .obtain⟨x,hx,hc⟩:=hm.2.2.2.1 j v hj
   cases hx
   exact hc
  .rw[V7];have e:((aL l).toList.take off++(m.map jJ++(aL l).toList.drop (off+m.length))).toArray=aL (l.take off++m++l.drop (off+m.length)):=by
    simp[aL,qbH,qbZ,qce]
   rw[e];exact h
end
theorem Lj(l:List UInt8)(hl:l.length=512)(m:List UInt8)(hm:m.length=7):(l.take 148++m++l.drop (148+7)).set 155 32=l.take 148++(m++[32])++l.drop 156:=by
 have h1:(l.take 148++m).length=155:=by rw[vG,zQ];omega
 rw[show 148+7=155 by rfl,qck _ _ (by omega),h1,Nat.sub_self,qbJ (show 155<l.length by omega),dY];simp
theorem YW(l:List UInt8)(hl:l.length=512)(w:World)(hT:EZ w):Calls qp0 71 #[.agg (aL l)] w fun e w'=>e=.returned (.agg (aL (Plain.seal l)))/\Below w.heap.size w w':=by
 have HR:=ah (Two.new w 70 l cZ);have HS:=ah (fun w=>KX l hl w);have HI:=ah (iL l hl);have HZ:=ah Bw;have hsl:=DY l hl;have HI2:=ah (iL (Plain.seal l) hsl);have HO2:=ah (sI (Plain.seal l));have hsz2:Hid ((aL cZ).size=(aL (Plain.seal l)).size):=by show _=_;rw[eZ,eZ,nS,hsl]
 have hub:=Np l hl;have hse:Plain.seal l=l.take 148++((bf (Plain.sum uby l).toNat 6++[0])++[32])++l.drop 156:=by unfold Plain.seal;simp
 have hfl:(bf (Plain.sum uby l).toNat 6++[0]).length=7:=by rw[vG];unfold bf;rw[cu];rfl
 have adL:=Lj l hl (bf (Plain.sum uby l).toNat 6++[0]) hfl;rw[<-hse] at adL;have hput:Plain.fA (Plain.sum uby l) 7=(bf (Plain.sum uby l).toNat 6++[0],0):=by
  have h8:(8:Nat)^6=262144:=rfl;unfold Plain.fA;rw[if_neg (by omega),if_neg (by omega),show(7:Int).toNat - 1=6 by rfl,if_pos (by omega)]
 have HP:=ah (fun w h=>Jt (Plain.sum uby l) 7 w h (by omega) (by omega) (by decide) (by decide));rw[hput] at HP;generalize bf (Plain.sum uby l).toNat 6++[0]=m at *
 generalize Plain.sum uby l=U at *
 generalize Plain.sum Ju l=V at *
 generalize Plain.seal l=s at *
 have HT:=ah hT;have HC:=ah adL;have UR:=ah hfl;have HL:=ah hl;clear hT adL hput hse hub hsl hl;go_enter func71,ntmps71;go_upto_region 1 with(first|(with_reducible first|refine dO rfl _ _ rfl (aL l) rfl ?_|refine bV rfl _ rfl (aL cZ) HZ.out ?_))
 have hR:=HR.out;generalize hw0:(w.alloc (.cells (aL l) 70)).alloc (.cells (aL cZ) 70)=wa at *
 clear hw0;have HRR:=ah hR;have H0:=ah hR.r0;clear hR HR;go_wp2_with (first|(with_reducible refine wpList_load_row rfl _ _ rfl w.heap.size rfl 70 (aL l) (0,0) _ H0.out underlying70 rfl HI.out ?_)|(go_at_call 73;(with_reducible refine(HS.out _).mono ?_);rintro e w1 ⟨rfl,hb1⟩;have HR1:=ah (HRR.out.keep hb1);clear hb1)|(go_at_call 107;(refine(HP.out w1 (by exact HT.out.below HR1.out.bJ)).mono ?_);rintro e w2 ⟨a2,n2,c2,rfl,hs2,hb2⟩;have HR2:=ah (HR1.out.keep hb2);have HS2:=ah hs2;have UL:=ah (hs2.len.symm.trans UR.out);clear hs2 hb2)|(with_reducible refine bA rfl _ _ _ _ rfl underlying70 (by kernel_rfl) w.heap.size rfl 148 512 .i64 .i64 rfl rfl (by decide) (by decide) (by decide) ?_)|((with_reducible refine qV rfl _ _ 22 22 rfl 5 underlying22 (by kernel_rfl) w.heap.size 148 _ _ rfl rfl l m HR2.out.r0 HS2.out (by rw[UL.out];decide) (by rw[UL.out];decide) (by rw[UL.out,HL.out];decide) ?_);rw[UL.out];have hR3:=HR2.out.row (l.take 148++m++l.drop (148+7));generalize w2.setRow w.heap.size (aL (l.take 148++m++l.drop (148+7)))=w3 at *;have hl3:(l.take 148++m++l.drop (148+7)).length=512:=(by rw[vG,vG,zQ,zW,UR.out,HL.out];decide);have hc3:=hR3.cell 155 (by rw[hl3];decide);have hz3:=hR3.ac8 155;have hR4:=hR3.agf 155 32 32 rfl;rw[HC.out] at hR4;have HR4:=ah hR4;have H4:=ah hR4.r0;have H5:=ah hR4.r1;clear hR3 hR4 hl3)|(with_reducible first|refine wpList_load_row rfl _ _ rfl w.heap.size rfl 70 (aL s) (0,0) _ H4.out underlying70 rfl HI2.out ?_|refine wpList_store_row rfl 70 _ _ rfl (w.heap.size+1) rfl (aL s) rfl (aL cZ) 70 H5.out hsz2.out HI2.out HO2.out ?_))
 refine bodyPost_ret (results_cell_row rfl _ _ (w.heap.size+1) 70 (aL s) (0,0) _ rfl (setRow_heap _ _ _ _ _ _ H5.out) underlying70 rfl HI2.out) rfl ⟨rfl,Below.setRow HR4.out.bJ (by omega) _⟩
