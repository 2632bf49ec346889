/- J21 -/
import Derived.Conc.CompanyDraw
import Derived.Test.YtdbgldieilgnmaaGreatDoorJ20
set_option linter.unusedVariables false
set_option linter.unusedSimpArgs false
set_option maxHeartbeats 8000000
set_option maxRecDepth 100000
namespace Go.Proofs.YtdbgldieilgnmaaGreatDoor
open Go.Proofs.Tryz
open Go.Proofs.Tryz renaming prog → qp0
open Go.ChangeShapes Go.WideShapes Go.ChangeAt Go.RowKit
open Go renaming undef → au
theorem ZK(v n:Int)(w:World)(hT:EZ w)(v0:-9223372036854775808<=v)(v1:v<=9223372036854775807)(n0:-9223372036854775808<=n)(n1:n<=9223372036854775807)(h:(Plain.fA v n).2=0):Calls qp0 70 #[.int .i64 v,.int .i64 n] w (Qb w (Plain.put v n)):=by
 have H1:=ah (uX v n w hT v0 v1 n0 n1);unfold Plain.put;rw[if_pos h];generalize Plain.fA v n=p at *
 obtain⟨p1,p2⟩:=p;obtain rfl:p2=0:=h;clear hT;go_enter func70,ntmps70;go_wp2_with (go_at_call 107;(with_reducible refine(H1.out).mono ?_);rintro e w1 ⟨a1,m1,c1,rfl,hbs,hb,hf⟩)
 go_ret2;exact mI.res ⟨a1,m1,c1,rfl,hbs,hb,hf⟩
theorem BK(h:Hd)(hi:Ol h)(hz:afM h)(hg:rO h=true)(ho8:∀ k,k<7->(Plain.fA (Ct h k) (JI k)).2=0)(w:World)(hT:EZ w):Calls qp0 37 #[.agg (dQ h)] w fun e w'=>e=.returned (.tuple #[.agg (aL (Plain.make h).1),.int .i64 (Plain.make h).2])/\Below w.heap.size w w':=by
 generalize hrr:Plain.make h=r;have Cb:=ah hrr;have HSP:=ah (fun w=>SC h.name w hz.name);have UR:=ah (fun w=>zD h.link 100 w hz.link);have HFU:=ah (fun w=>zD h.user 32 w hz.user);have HFG:=ah (fun w=>zD h.group 32 w hz.group);have hgq:=(Ms h hi).1 hg;have ahv:=ah hgq.2;have HO8:=ah ho8;have hP:=hgq.1;unfold Va at hP;simp only[fE,decide_eq_true_eq] at hP;obtain⟨c0,hL,hU,hG,y0⟩:=hP;rw[hL] at UR;rw[hU] at HFU;rw[hG] at HFG;have t0:((Plain.split h.name).2.2 != 0)=false:=Rf c0;have t1:((h.ty.toNat:Int)==0)=false:=by rw[beq_eq_false_iff_ne];intro e;exact y0 (VL.1 (by simpa using e))
 have Zp:=ah (QK h hi);have HAL:=ah (ZE h hi);have HVI:=ah (XH h hi);have HFK:=ah (mX h hi);have HH:=ah (HM.new w h);have HI:=ah (iL cZ nS);have HO:=ah (sI cZ);have HZ:=ah Bw;have HT:=ah hT;unfold splitV at HSP;clear hrr hi hz hT hgq hL hU hG y0 c0 ho8;go_enter func37,ntmps37;go_upto_region 2 with(first|(with_reducible first|refine dO rfl _ _ rfl (dQ h) rfl ?_|refine bV rfl _ rfl (aL cZ) HZ.out ?_))
 have hR:=HH.out;generalize ((w.alloc (.cells (dQ h) 74)).alloc (.cells (aL cZ) 70)).alloc (.cells (aL cZ) 70)=wa at *
 have HR:=ah hR;clear hR HH;have hx0:wa.cell? ⟨w.heap.size,0,none⟩=some (.string ⟨h.name.toArray⟩):=HR.out.jT 0;go_upto_region 3 with(go_at_call 67;(with_reducible refine(HSP.out _).mono ?_);rintro e w1 ⟨rfl,hb1⟩;have HR1:=ah (HR.out.keep hb1);clear hb1)
 clear hx0 HR HSP;generalize (Plain.split h.name).2.2=c at *
 have hx1:w1.cell? ⟨w.heap.size,1,none⟩=some (.string ⟨h.link.toArray⟩):=HR1.out.jT 1;have hx8:w1.cell? ⟨w.heap.size,8,none⟩=some (.string ⟨h.user.toArray⟩):=HR1.out.jT 8;have RN:w1.cell? ⟨w.heap.size,9,none⟩=some (.string ⟨h.group.toArray⟩):=HR1.out.jT 9;have hx7:w1.cell? ⟨w.heap.size,7,none⟩=some (.int .u8 (h.ty.toNat:Int)):=HR1.out.jT 7;go_upto_if 44 with(go_at_call 68;first|((with_reducible refine(UR.out _).mono ?_);rintro e w2 ⟨rfl,hw2⟩;obtain rfl:=hw2)|((with_reducible refine(HFU.out _).mono ?_);rintro e w2 ⟨rfl,hw2⟩;obtain rfl:=hw2)|((with_reducible refine(HFG.out _).mono ?_);rintro e w2 ⟨rfl,hw2⟩;obtain rfl:=hw2));clear hx1 hx8 RN hx7 UR HFU HFG t0 t1;have hx2:w1.cell? ⟨w.heap.size,2,none⟩=some (.int .i64 h.mode):=HR1.out.jT 2;have hx3:w1.cell? ⟨w.heap.size,3,none⟩=some (.int .i64 h.uid):=HR1.out.jT 3;have hx4:w1.cell? ⟨w.heap.size,4,none⟩=some (.int .i64 h.gid):=HR1.out.jT 4;have hx5:w1.cell? ⟨w.heap.size,5,none⟩=some (.int .i64 h.size):=HR1.out.jT 5;have hx6:w1.cell? ⟨w.heap.size,6,none⟩=some (.int .i64 h.mtime):=HR1.out.jT 6;have TA:w1.cell? ⟨w.heap.size,10,none⟩=some (.int .i64 h.major):=HR1.out.jT 10;have ahb:w1.cell? ⟨w.heap.size,11,none⟩=some (.int .i64 h.minor):=HR1.out.jT 11
 have hb:=(Below.refl w1.heap.size w1).alloc (aY _) (.cells #[.int .i64 h.mode,.int .i64 h.uid,.int .i64 h.gid,.int .i64 h.size,.int .i64 h.mtime,.int .i64 h.major,.int .i64 h.minor] 130);have hv:HV w h cZ w1.heap.size (ZV h) (w1.alloc (.cells #[.int .i64 h.mode,.int .i64 h.uid,.int .i64 h.gid,.int .i64 h.size,.int .i64 h.mtime,.int .i64 h.major,.int .i64 h.minor] 130)):=⟨HR1.out.keep hb,HR1.out.lt,heap_alloc_new w1 _⟩;have HV0:=ah hv;clear hb hv;go_upto_region 6 with fail
 generalize w1.alloc (.cells #[.int .i64 h.mode,.int .i64 h.uid,.int .i64 h.gid,.int .i64 h.size,.int .i64 h.mtime,.int .i64 h.major,.int .i64 h.minor] 130)=wd at *
 generalize w1.heap.size=gv at *
 clear hx2 hx3 hx4 hx5 hx6 TA ahb HR1;have aeF:=abt h;have hvl:(ZV h).length=7:=rfl;generalize ZV h=VS at *
 have HVA:=ah aeF;have OI:=ah hvl;clear aeF hvl;go_wp2_with (go_at_call 69;(with_reducible refine(Cx _).mono ?_);rintro e w5 ⟨rfl,hb5⟩;have HV1:=ah (HV0.out.keep hb5);clear hb5)
 have U0:=ah (fun k hk w=>xw k hk w);generalize nW=FA at *
 clear HV0;go_loopw [62] (fun i wr=>∃ k:Nat,k<=7/\i=.int .i64 k/\Hid (∀ j,j<k->Cu h j=true)/\Hid (HV w h (MZ h k) gv VS wr)) (fun i _=>7-(intOf i).toNat)
 case atStart=>exact⟨0,by decide,rfl,ah (fun j hj=>absurd hj (qbq j)),HV1⟩
 case round =>
  clear HV1;obtain⟨k,hk,rfl,hok,hX⟩:=hrel;by_cases hlt:k<7
  .as_aux_lemma =>
    have hki:(k:Int)<7:=by omega
    have hbl:=Zp.out k (by omega) hok.out;have hvi:=(gM (Ct h k)).1 (HVI.out k);have hcv:=HVA.out k hlt;have hfd:=qm k hlt;have ahf:=Om k hlt;have hok1:=ahv.out k hlt;have ho1:=HO8.out k hlt;have hfo:Cu h k=decide ((Plain.put (Ct h k) (JI k)).2=0/\(fieldAt k).2.2.1<=Ct h k/\Ct h k<=(fieldAt k).2.2.2):=rfl;have hfl:=HFK.out k hlt;have hnx:MZ h (k+1)=lay (MZ h k) (fieldAt k).1 (Plain.put (Ct h k) (JI k)).1:=rfl;have hwk:JI k=((fieldAt k).2.1:Int)-((fieldAt k).1:Int):=rfl;have HW1:=U0.out k hlt;unfold Cj at HW1;generalize hfk:Cu h k=FK at *
    generalize hmn:MZ h (k+1)=MN at *
    generalize MZ h k=M at *
    generalize Ct h k=v at *
    generalize JI k=N at *
    generalize fieldAt k=f at *
    obtain⟨s,e,lo,hi⟩:=f;simp only at hfd ahf hfo hfl hnx hwk HW1;have aht:Hid (∀ w,(Instr.index 133 (.agg FA) (.int .i64 (k:Int))).run qp0 w=.ok (.agg #[.int .i64 (s:Int),.int .i64 (e:Int),.int .i64 lo,.int .i64 hi]) w):=HW1;have afD:=ah (fun w h=>ZK v N w h hvi.1 (by omega) (by omega) (by omega) ho1);clear ho1;generalize Plain.put v N=q at *
    obtain⟨t,code⟩:=q;simp only at hfo hfl hnx;have hX8:=hX.out.keep ((Below.refl _ _).alloc (aY _) (.cells #[.int .i64 (s:Int),.int .i64 (e:Int),.int .i64 lo,.int .i64 hi] 132));have UK:=ah hX8;have hrf:(wr.alloc (.cells #[.int .i64 (s:Int),.int .i64 (e:Int),.int .i64 lo,.int .i64 hi] 132)).heap[wr.heap.size]? = some (.cells #[.int .i64 (s:Int),.int .i64 (e:Int),.int .i64 lo,.int .i64 hi] 132 (0,0)):=heap_alloc_new wr _;have HRF:=ah hrf;obtain⟨hse,he5,hs5⟩:=hfd;have agF:=ah hbl;have HCV:=ah hcv;have HFO:=ah hfo;have UR:=ah hfl;have HNX:=ah hnx;have HKF:=ah hfk;have HMN:=ah hmn;clear hbl hcv hfo hfl hnx HW1 hX8 hrf hfk hmn U0 HFK HVI HVA Zp;go_upto_region 9 with(refine je (vy:=.agg FA) (vx:=.int .i64 (k:Int)) rfl 133 (.tmp 61) (.tmp 62) rfl rfl rfl (.agg #[.int .i64 (s:Int),.int .i64 (e:Int),.int .i64 lo,.int .i64 hi]) (aht.out _) ?_)
    generalize wr.alloc (.cells #[.int .i64 (s:Int),.int .i64 (e:Int),.int .i64 lo,.int .i64 hi] 132)=wq at *
    generalize wr.heap.size=gf at *
    have hcv:wq.cell? ⟨gv,k,none⟩=some (.int .i64 v):=by rw[UK.out.cell k (by rw[OI.out];exact hlt),HCV.out]
    have hc0:wq.cell? ⟨gf,0,none⟩=some (.int .i64 (s:Int)):=by rw[cell_of_row _ _ _ _ _ _ HRF.out];rfl
    have hc1:wq.cell? ⟨gf,1,none⟩=some (.int .i64 (e:Int)):=by rw[cell_of_row _ _ _ _ _ _ HRF.out];rfl
    have HD:=ah (And.intro hcv (And.intro hc1 hc0));have hwr:IntKind.i64.wrap ((e:Int)-(s:Int))=N:=by rw[hwk];exact IntWalk.i64_in _ (by omega)
    have hk0:(0:Int)<=(k:Int):=by omega
    clear hX hwk hcv hc0 hc1;go_region_held3 (fun w'=>w'.cell? ⟨gv,k,none⟩=some (.int .i64 v)/\w'.cell? ⟨gf,1,none⟩=some (.int .i64 (e:Int))/\w'.cell? ⟨gf,0,none⟩=some (.int .i64 (s:Int))) (first|exact HD.out|exact HD7.out) (first|(go_at_call 70;(with_reducible refine(afD.out _ (by exact(HT.out.below UK.out.hm.bJ).below ((Below.refl _ _).drew))).mono ?_);rintro e7 w7 ⟨a7,n7,c7,rfl,hs7,mq⟩;have hd7:=Below.seq ((Below.refl wq.heap.size wq).drew) mq;have GY:=ah (UK.out.keep hd7);have HS7:=ah hs7;have HD7:=ah (And.intro (Below.keeps hd7 _ _ HD.out.1) (And.intro (Below.keeps hd7 _ _ HD.out.2.1) (Below.keeps hd7 _ _ HD.out.2.2)));have acB:Hid (w7.heap[gf]? = some (.cells #[.int .i64 (s:Int),.int .i64 (e:Int),.int .i64 lo,.int .i64 hi] 132 (0,0))):=ah (by rw[hd7.block _ (fT.1 HRF.out).1];exact HRF.out);clear hs7 mq hd7))
    clear hwr afD HD UK HRF;have hcv:w7.cell? ⟨gv,k,none⟩=some (.int .i64 v):=HD7.out.1;have hc0:w7.cell? ⟨gf,0,none⟩=some (.int .i64 (s:Int)):=HD7.out.2.2;have hc1:w7.cell? ⟨gf,1,none⟩=some (.int .i64 (e:Int)):=HD7.out.2.1;have hc2:w7.cell? ⟨gf,2,none⟩=some (.int .i64 lo):=by rw[cell_of_row _ _ _ _ _ _ acB.out];rfl
    have hc3:w7.cell? ⟨gf,3,none⟩=some (.int .i64 hi):=by rw[cell_of_row _ _ _ _ _ _ acB.out];rfl
    have HXQ:Hid (∀ n,HV w h M gv VS (w7.drewN n)):=ah (fun n=>GY.out.keep (Below.drewN (Below.refl _ _) n));have HSQ:Hid (∀ n,Bs (w7.drewN n) a7 n7 c7 t):=ah (fun n=>Below.bs (Below.drewN (Below.refl w7.heap.size w7) n) HS7.out);clear HD7 acB GY;obtain⟨g1,g2,g3⟩:=of_decide_eq_true (HFO.out.symm.trans hok1);have hfk:FK=true:=by rw[HFO.out];exact uQ ⟨g1,g2,g3⟩
    have hl:=UR.out hfk;have hok2:∀ j,j<k+1->Cu h j=true:=fun j hj=>by
     by_cases ej:j=k
     .subst ej;rw[HKF.out];exact hfk
     .exact hok.out j (by omega)
    have ads:=ah hok2;have d1:(code != 0)=false:=Rf g1;have d2:¬ v<lo:=by omega
    have d3:¬ hi<v:=by omega
    have hn7:n7=e-s:=by rw[<-HS7.out.len];exact hl
    have hpos:0<e-s:=by omega
    have HN7:=ah hn7;clear hok2 hfk hl HFO UR hn7 HS7;have h12:(s:Int)<=e:=by omega
    have h13:(e:Int)<=512:=by omega
    go_wp2_with fail
    go_quiet (fail)
    go_wp2_with (first|(with_reducible refine bA rfl _ _ _ _ rfl underlying70 (by kernel_rfl) (w.heap.size+2) rfl s e .i64 .i64 rfl rfl hse (by omega) (by omega) ?_)|((with_reducible refine qV rfl _ _ 22 22 rfl 5 underlying22 (by kernel_rfl) (w.heap.size+2) s _ _ rfl rfl M t (HXQ.out _).hm.rb (HSQ.out _) (by rw[HN7.out];exact hpos) (by rw[HN7.out];exact aY _) (by rw[HN7.out,agF.out];omega) ?_);rw[afN HNX.out (HSQ.out 0).len]))
    go_round
    case rel=>exact⟨k+1,by omega,by go_num,ads,ah (by rw[HMN.out];exact(HXQ.out _).row MN)⟩
    case measure=>simp[intOf];omega
  .obtain rfl:k=7:=by omega
   as_aux_lemma =>
    have hki:¬ (7:Int)<7:=by omega
    have hgd:rO h=true:=hg;have hall:=HAL.out hgd;have hr:r=(Plain.seal (oZ h),0):=by rw[<-Cb.out];exact UD h hgd
    have hlen:=Zp.out 7 (by decide) hok.out;have hpt:=S9 h hgd;obtain⟨q1,q2,q3,q4,q5⟩:=hpt;unfold adE at hall;have hsl:(oZ h).length=512:=by
     rw[<-hall];have l1:(lay (MZ h 7) 0 (Plain.split h.name).2.1).length=512:=by rw[gF _ _ _ (by omega),hlen]
     have l2:(lay (lay (MZ h 7) 0 (Plain.split h.name).2.1) 156 [h.ty]).length=512:=by rw[gF _ _ _ (by rw[l1];simp),l1]
     have l3:(lay (lay (lay (MZ h 7) 0 (Plain.split h.name).2.1) 156 [h.ty]) 157 h.link).length=512:=by rw[gF _ _ _ (by omega),l2]
     have l4:(lay (lay (lay (lay (MZ h 7) 0 (Plain.split h.name).2.1) 156 [h.ty]) 157 h.link) 257 dB).length=512:=by rw[gF _ _ _ (by rw[l3];decide),l3]
     have l5:(lay (lay (lay (lay (lay (MZ h 7) 0 (Plain.split h.name).2.1) 156 [h.ty]) 157 h.link) 257 dB) 265 h.user).length=512:=by rw[gF _ _ _ (by omega),l4]
     have l6:(lay (lay (lay (lay (lay (lay (MZ h 7) 0 (Plain.split h.name).2.1) 156 [h.ty]) 157 h.link) 257 dB) 265 h.user) 297 h.group).length=512:=by rw[gF _ _ _ (by omega),l5]
     rw[gF _ _ _ (by omega),l6]
    have afF:=ah (fun w hT=>YW (oZ h) hsl w hT);have HIS:=ah (iL (Plain.seal (oZ h)) (DY _ hsl));have HOS:=ah (sI (Plain.seal (oZ h)));have HSS:Hid ((aL cZ).size=(aL (Plain.seal (oZ h))).size):=by show _=_;rw[eZ,eZ,nS,DY _ hsl]
    have HIB:=ah (iL (oZ h) hsl);generalize Plain.seal (oZ h)=SB at *
    generalize oZ h=BO at *
    generalize MZ h 7=M0 at *
    generalize (Plain.split h.name).2.1=ps at *
    generalize (Plain.split h.name).1=pp at *
    obtain⟨M1,hM1⟩:∃ M,M=lay M0 0 ps:=⟨_,rfl⟩
    obtain⟨M2,hM2⟩:∃ M,M=lay M1 156 [h.ty]:=⟨_,rfl⟩
    obtain⟨M3,hM3⟩:∃ M,M=lay M2 157 h.link:=⟨_,rfl⟩
    obtain⟨M4,hM4⟩:∃ M,M=lay M3 257 dB:=⟨_,rfl⟩
    obtain⟨M5,hM5⟩:∃ M,M=lay M4 265 h.user:=⟨_,rfl⟩
    obtain⟨M6,hM6⟩:∃ M,M=lay M5 297 h.group:=⟨_,rfl⟩
    rw[<-hM1,<-hM2,<-hM3,<-hM4,<-hM5,<-hM6] at hall;have l1:M1.length=512:=by rw[hM1,gF _ _ _ (by omega),hlen]
    have l2:M2.length=512:=by rw[hM2,gF _ _ _ (by rw[l1];simp),l1]
    have l3:M3.length=512:=by rw[hM3,gF _ _ _ (by omega),l2]
    have l4:M4.length=512:=by rw[hM4,gF _ _ _ (by rw[l3];decide),l3]
    have l5:M5.length=512:=by rw[hM5,gF _ _ _ (by omega),l4]
    have l6:M6.length=512:=by rw[hM6,gF _ _ _ (by omega),l5]
    have hset:M1.set 156 h.ty=M2:=by rw[hM2,ZX _ _ _ (by rw[l1];decide)]
    have HM1:=ah hM1;have HM3:=ah hM3;have HM4:=ah hM4;have HM5:=ah hM5;have HM6:=ah hM6;have KA:=ah hall;have acT:=ah hset;have HRR:=ah hr;have L0:=ah hlen;have L1:=ah l1;have L2:=ah l2;have L3:=ah l3;have L4:=ah l4;have L5:=ah l5;have L6:=ah l6;have Q1:=ah q1;have Q2:=ah q2;have Q3:=ah q3;have Q4:=ah q4;have Q5:=ah q5;have HX0:=ah hX.out.hm;have hwr:=HX0.out.bJ;clear hgd hall hr hlen hM1 hM2 hM3 hM4 hM5 hM6 l1 l2 l3 l4 l5 l6 hset q1 q2 q3 q4 q5 hsl hX Zp HAL HVI HFK  Cb U0 HVA OI hok hk hlt HI HO hwr;go_upto_region 15 with(first|(with_reducible refine bA rfl _ _ _ _ rfl underlying70 (by kernel_rfl) (w.heap.size+2) rfl 0 512 .i64 .i64 rfl rfl (by decide) (by decide) (by decide) ?_)|((with_reducible refine jr rfl _ _ 22 9 rfl 5 underlying22 (by kernel_rfl) (w.heap.size+2) 0 _ _ rfl M0 ps rfl HX0.out.rb (by have:=Q1.out;omega) (by rw[L0.out];have:=Q1.out;omega) ?_);intro w20 aeN;have Ta:=ah (by have hh:=HX0.out.row M1;rw[HM1.out,<-aeN,<-HM1.out] at hh;exact hh:HM w h M1 w20);clear aeN))
    clear HX0;have hx7:w20.cell? ⟨w.heap.size,7,none⟩=some (.int .u8 (h.ty.toNat:Int)):=Ta.out.jT 7;have hxb:=Ta.out.afs 156 (by rw[L1.out];decide);have hfb:=Ta.out.afj 156;have hX2:=Ta.out.set 156 h.ty
    rw[acT.out] at hX2;have HX2:=ah hX2;clear hX2;go_upto_region 16 with fail
    generalize w20.setCell ⟨w.heap.size+2,156,none⟩ (.int .u8 (h.ty.toNat:Int))=w21 at *
    clear hx7 hxb hfb Ta;have Vg:=HX2.out.keep ((Below.refl _ _).drew);have HDR:=ah Vg;have HLD:Hid (w21.drew.cell? ⟨w.heap.size,1,none⟩=some (.string ⟨h.link.toArray⟩)):=ah (Vg.jT 1);have hs1:=fun wx=>bY (P:=qp0) 70 underlying70 (by kernel_rfl) (w.heap.size+2) (some 157) none 157 512 rfl rfl (by decide) (by decide) (by decide) wx
    simp only[Option.map] at hs1;clear Vg;go_region_held3 (fun w'=>w'.cell? ⟨w.heap.size,1,none⟩=some (.string ⟨h.link.toArray⟩)) (first|exact HLD.out|exact HLE.out) (first|(refine kR (by rfl) _ _ 22 9 (by rfl) 5 underlying22 (by kernel_rfl) (w.heap.size+2) 157 _ _ (by rfl) M2 h.link (by rfl) (by exact HDR.out.rb) (by have:=Q2.out;omega) (by rw[L2.out];have:=Q2.out;omega) ?_;intro w22 hw_;have HX3:=ah (by have hh:=HDR.out.row M3;rw[HM3.out,<-hw_,<-HM3.out] at hh;exact hh:HM w h M3 w22);have HLE:Hid (w22.cell? ⟨w.heap.size,1,none⟩=some (.string ⟨h.link.toArray⟩)):=ah (HX3.out.jT 1);clear hw_))
    clear hs1 HDR HLD HLE HX2;go_upto_region 18 with(first|(with_reducible refine bA rfl _ _ _ _ rfl underlying70 (by kernel_rfl) (w.heap.size+2) rfl 257 512 .i64 .i64 rfl rfl (by decide) (by decide) (by decide) ?_)|((with_reducible refine jr rfl _ _ 22 9 rfl 5 underlying22 (by kernel_rfl) (w.heap.size+2) 257 _ _ rfl M3 dB rfl HX3.out.rb (by decide) (by rw[L3.out];decide) ?_);intro Zn afc;have HX4:=ah (by have hh:=HX3.out.row M4;rw[HM4.out,<-afc,<-HM4.out] at hh;exact hh:HM w h M4 Zn);clear afc))
    clear HX3;have Vg:=HX4.out.keep ((Below.refl _ _).drew);have HDR:=ah Vg;have HLD:Hid (Zn.drew.cell? ⟨w.heap.size,8,none⟩=some (.string ⟨h.user.toArray⟩)):=ah (Vg.jT 8);have hs1:=fun wx=>bY (P:=qp0) 70 underlying70 (by kernel_rfl) (w.heap.size+2) (some 265) none 265 512 rfl rfl (by decide) (by decide) (by decide) wx
    simp only[Option.map] at hs1;clear Vg;go_region_held3 (fun w'=>w'.cell? ⟨w.heap.size,8,none⟩=some (.string ⟨h.user.toArray⟩)) (first|exact HLD.out|exact HLE.out) (first|(refine kR (by rfl) _ _ 22 9 (by rfl) 5 underlying22 (by kernel_rfl) (w.heap.size+2) 265 _ _ (by rfl) M4 h.user (by rfl) (by exact HDR.out.rb) (by have:=Q3.out;omega) (by rw[L4.out];have:=Q3.out;omega) ?_;intro w24 hw_;have HX5:=ah (by have hh:=HDR.out.row M5;rw[HM5.out,<-hw_,<-HM5.out] at hh;exact hh:HM w h M5 w24);have HLE:Hid (w24.cell? ⟨w.heap.size,8,none⟩=some (.string ⟨h.user.toArray⟩)):=ah (HX5.out.jT 8);clear hw_))
    clear hs1 HDR HLD HLE HX4;go_upto_region 19 with fail
    have Vg:=HX5.out.keep ((Below.refl _ _).drew);have HDR:=ah Vg;have HLD:Hid (w24.drew.cell? ⟨w.heap.size,9,none⟩=some (.string ⟨h.group.toArray⟩)):=ah (Vg.jT 9);have hs1:=fun wx=>bY (P:=qp0) 70 underlying70 (by kernel_rfl) (w.heap.size+2) (some 297) none 297 512 rfl rfl (by decide) (by decide) (by decide) wx
    simp only[Option.map] at hs1;clear Vg;go_region_held3 (fun w'=>w'.cell? ⟨w.heap.size,9,none⟩=some (.string ⟨h.group.toArray⟩)) (first|exact HLD.out|exact HLE.out) (first|(refine kR (by rfl) _ _ 22 9 (by rfl) 5 underlying22 (by kernel_rfl) (w.heap.size+2) 297 _ _ (by rfl) M5 h.group (by rfl) (by exact HDR.out.rb) (by have:=Q4.out;omega) (by rw[L5.out];have:=Q4.out;omega) ?_;intro w25 hw_;have HX6:=ah (by have hh:=HDR.out.row M6;rw[HM6.out,<-hw_,<-HM6.out] at hh;exact hh:HM w h M6 w25);have HLE:Hid (w25.cell? ⟨w.heap.size,9,none⟩=some (.string ⟨h.group.toArray⟩)):=ah (HX6.out.jT 9);clear hw_))
    clear hs1 HDR HLD HLE HX5;go_upto_region 21 with(first|(with_reducible refine bA rfl _ _ _ _ rfl underlying70 (by kernel_rfl) (w.heap.size+2) rfl 345 512 .i64 .i64 rfl rfl (by decide) (by decide) (by decide) ?_)|((with_reducible refine jr rfl _ _ 22 9 rfl 5 underlying22 (by kernel_rfl) (w.heap.size+2) 345 _ _ rfl M6 pp rfl HX6.out.rb (by have:=Q5.out;omega) (by rw[L6.out];have:=Q5.out;omega) ?_);intro w26 afr;have GY:=ah (by have hh:=HX6.out.row BO;rw[<-KA.out,<-afr,KA.out] at hh;exact hh:HM w h BO w26);clear afr))
    clear HX6;go_wp2_with (first|(with_reducible refine wpList_load_row rfl _ _ rfl (w.heap.size+2) rfl 70 (aL BO) (0,0) _ GY.out.rb underlying70 rfl HIB.out ?_)|(go_at_call 71;(refine(afF.out w26 (by exact HT.out.below GY.out.bJ)).mono ?_);rintro e w27 ⟨rfl,aeX⟩;have UK:=ah (GY.out.keep aeX);clear aeX)|(with_reducible refine wpList_store_row rfl 70 _ _ rfl (w.heap.size+1) rfl (aL SB) rfl (aL cZ) 70 UK.out.rr HSS.out HIS.out HOS.out ?_))
    exact bodyPost_ret (results_cell_tmp rfl _ _ (w.heap.size+1) 70 (aL SB) (0,0) _ _ rfl rfl (setRow_heap _ _ _ _ _ _ UK.out.rr) underlying70 rfl HIS.out) rfl ⟨by rw[HRR.out];rfl,Below.setRow UK.out.bJ (by omega) _⟩
def IsB(u:Value):Prop:=∃ x:UInt8,u=jJ x
def ZB(w:World)(v:Value):Prop:=∀ g,v.ownBlock=some g->∃ cs,w.heap[g]? = some (.cells cs 5 (0,0))/\∀ u∈cs.toList,IsB u
structure kF(w:World)(base:Nat)(v:Value)(n:Nat)(l:List UInt8):Prop where
 own:w.ownsRow base 5 1 v n (l.map jJ)
 cl:ZB w v
theorem xQ(l:List UInt8):∀ u∈l.map jJ,IsB u:=fun u hu=>by
 obtain⟨x,_,rfl⟩:=ZW.1 hu;exact⟨x,rfl⟩
theorem mZ(k:Nat):∀ u∈(Builtin.zeroCells (Value.int .u8 0).cells k).toList,IsB u:=fun u hu=>by
 unfold Builtin.zeroCells at hu;have hu:u∈(Array.range (k*1)).map fun i=>(#[Value.int .u8 0]:Array Value)[i%1]!:=by simpa[Value.cells] using hu
 rw[Array.mem_map] at hu;obtain⟨i,_,rfl⟩:=hu;refine⟨0,?_⟩;rw[Nat.mod_one];rfl
theorem kF.kept{w w':World}{base:Nat}{v:Value}{n:Nat}{l:List UInt8}(h:kF w base v n l)(hb:∀ b,v.ownBlock=some b->w'.heap[b]? = w.heap[b]?):kF w' base v n l:=by
 refine⟨?_,fun g hg=>?_⟩
 .obtain⟨h1,h2⟩:=h.own;refine⟨h1,?_⟩;rcases h2 with h2|⟨g,cap,cur,hv,hg,hh,r⟩
  .exact Or.inl h2
  .exact Or.inr ⟨g,cap,cur,hv,hg,(hb g (by rw[hv];rfl)).trans hh,r⟩
 .obtain⟨cs,h1,h2⟩:=h.cl g hg;exact⟨cs,(hb g hg).trans h1,h2⟩
theorem kF.alloc{w:World}{base:Nat}{v:Value}{n:Nat}{l:List UInt8}(h:kF w base v n l)(o:Obj):kF (w.alloc o) base v n l:=h.kept fun b hb=>by
 have hlt:=(h.own.lt b hb).2;show(w.heap.push o)[b]? = _;rw[Qi,if_neg (by omega)]
theorem Dw:∃ i,qp0.info? 5=some i/\i.zero=some (.int .u8 0)/\i.size=1/\i.bytes=1:=info_parts V6
theorem YZ{w:World}(ty:TypeId){base:Nat}{a1:Option Addr}{n c1:Nat}{l:List UInt8}(h:kF w base (.slice a1 n c1) n l){ad:Addr}{m c2:Nat}{l2:List UInt8}(hl:l2.length=m)(hnews:∀ j u,(l2.map jJ)[j]? = some u->w.cell? (ad.add j)=some u)(hb:n+m<=140737488355328)(hbase:base<=w.heap.size):∃ a' c' w',(Builtin.append_ #[22,22] ty #[.slice a1 n c1,.slice (some ad) m c2]).run qp0 w=.ok (.slice a' (n+m) c') w'/\kF w' base (.slice a' (n+m) c') (n+m) (l++l2)/\w.grownBy w' (Value.slice a1 n c1).ownBlock:=by
 obtain⟨i,hi',hz0,hz1,hz2⟩:=Dw;have hl':(l2.map jJ).length=m*1:=by rw[V7,hl,qbK]
 have h1:∀ u∈l2.map jJ,u.oneCell'=true:=kY l2
 have hn:=Bh h.own;obtain⟨v',w',hr,h2,h3⟩:=run_append_own (P:=qp0) w base 22 ty 5 i (.int .u8 0) 1 1 underlying22 hi' hz0 hz1 hz2 rfl (by decide) _ n (l.map jJ) h.own ad m c2 (l2.map jJ) hl' hnews h1 (by unfold maxLen;omega) (by omega) hbase;obtain⟨a',c',rfl⟩:=yT h2;rw[<-qbH] at h2;refine⟨a',c',w',hr,⟨h2,?_⟩,h3.1⟩;have hown2:=h.own.2;rcases hown2 with⟨he,hn0⟩|⟨g0,cap,cur,he,hbg,hgc,hnc,hcm,hcs,htake⟩
 .cases he
  by_cases hm:m=0
  .have:=h3.2.2 ⟨rfl,hm⟩;intro g hg;rw[this] at hg;cases hg
  .have k:=run_append_nil (P:=qp0) (w:=w) 22 ty 5 i (.int .u8 0) underlying22 hi' hz0 ad m c2 (l2.map jJ) (by rw[hz1];exact hl') hnews (by omega) (by omega) (by rw[hz2];omega);rw[hr] at k;simp only[Result.ok.injEq,Value.slice.injEq,lU,true_and] at k;obtain⟨⟨rfl,rfl⟩,rfl⟩:=k;intro g hg
   cases hg
   refine⟨_,heap_alloc_new w.drew _,fun u hu=>?_⟩;simp only[qbx,UY] at hu;rcases hu with hu|hu
   .exact xQ l2 u (by simpa using hu)
   .exact mZ _ u hu
 .cases he
  obtain⟨cs,hcs1,hcs2⟩:=h.cl g0 rfl;rw[hgc] at hcs1
  cases hcs1
  by_cases hroom:n+m<=c1
  .have k:=run_append_room (P:=qp0) w 22 ty 5 i underlying22 hi' g0 n c1 cur hgc ad m c2 (l2.map jJ) (by rw[hz1];exact hl') hnews h1 hroom (by rw[hz1,hl',hcs,qbK];omega);rw[hr] at k;simp only[Result.ok.injEq,Value.slice.injEq,true_and] at k;obtain⟨⟨rfl,rfl⟩,rfl⟩:=k;intro g hg
   cases hg
   refine⟨_,setRow_heap _ _ _ _ _ _ hgc,fun u hu=>?_⟩;simp only[UY] at hu;rcases hu with(hu|hu)|hu
   .exact hcs2 u (qbY hu)
   .exact xQ l2 u hu
   .exact hcs2 u (List.mem_of_mem_drop hu)
  .have holds:∀ j u,(l.map jJ)[j]? = some u->w.cell? ((⟨g0,0,none⟩:Addr).add j)=some u:=h.own.cells (g:=g0) rfl
   have k:=run_append_grow (P:=qp0) w 22 ty 5 i (.int .u8 0) underlying22 hi' hz0 ⟨g0,0,none⟩ n c1 (l.map jJ) (by rw[hz1];exact h.own.1) holds ad m c2 (l2.map jJ) (by rw[hz1];exact hl') hnews (by omega) (by omega) (growslice_fits (by omega) (by rw[hz2];omega));rw[hr] at k;simp only[Result.ok.injEq,Value.slice.injEq,true_and] at k;obtain⟨⟨rfl,rfl⟩,rfl⟩:=k;intro g hg
   cases hg
   refine⟨_,heap_alloc_new w.drew _,fun u hu=>?_⟩;simp only[qbx,UY] at hu;rcases hu with(hu|hu)|hu
   .exact xQ l u (by simpa using hu)
   .exact xQ l2 u (by simpa using hu)
   .exact mZ _ u hu
theorem zR(k:Nat):(Builtin.zeroCells (Value.int .u8 0).cells k).toList=(List.replicate k (0:UInt8)).map jJ:=by
 unfold Builtin.zeroCells;have e:(Value.int .u8 0).cells=#[Value.int .u8 0]:=rfl;rw[e];refine List.ext_getElem? fun i=>?_
 by_cases hi:i<k
 .simp[hi,Nat.mod_one,jJ]
 .simp[hi]
theorem GH{w:World}(ty tn:TypeId)(htn:∃ kn,qp0.underlying tn=some (.int kn)){base:Nat}{A:Addr}{n c1:Nat}{l:List UInt8}(h:kF w base (.slice (some A) n c1) n l){m:Nat}(hm0:0<m)(hb:n+m<=140737488355328)(hbase:base<=w.heap.size):∃ a' c' w',(Builtin.append_ #[22,tn] ty #[.slice (some A) n c1,.int .i64 m]).run qp0 w=.ok (.slice (some a') (n+m) c') w'/\kF w' base (.slice (some a') (n+m) c') (n+m) (l++List.replicate m 0)/\w.grownBy w' (Value.slice (some A) n c1).ownBlock:=by
 obtain⟨i,hi',hz0,hz1,hz2⟩:=Dw;obtain⟨kn,htn⟩:=htn;have hn:=Bh h.own;have hmn:m≠0:=by omega
 have hw:IntKind.i64.wrap (m:Int)=m:=by rw[IntKind.wrap_i64];omega
 have hneg:¬ ((m:Int)<0):=by omega
 have h48:¬ (281474976710656<(m:Int)):=by omega
 have hzl:=zR m;have hzs:(Builtin.zeroCells (Value.int .u8 0).cells m).size=m:=by rw[<-U5,hzl];simp
 have ht:=underlying22;have hlen:((l++List.replicate m 0).map jJ).length=(n+m)*1:=by simp[hn]
 have afR:∀ u∈(Builtin.zeroCells (Value.int .u8 0).cells m).toList,u.oneCell'=true:=fun u hu=>by obtain⟨x,rfl⟩:=mZ m u hu;rfl
 rcases h.own.2 with⟨he,hn0⟩|⟨g0,cap,cur,he,hbg,hgc,hnc,hcm,hcs,htake⟩
 .cases he
 .cases he
  obtain⟨cs,hcs1,hcs2⟩:=h.cl g0 rfl;rw[hgc] at hcs1
  cases hcs1
  rw[qbK] at hcs htake;have hcur:cur.toList.take n=l.map jJ:=htake;by_cases hroom:n+m<=c1
  .have hst:=run_storeCells_at qp0 g0 (n*1) 5 (Builtin.zeroCells (Value.int .u8 0).cells m).toList 0 cur w hgc (by rw[hzl];simp;omega) afR;simp only[R4,qbK] at hst;refine⟨_,_,w.setRow g0 (cur.toList.take n++(Builtin.zeroCells (Value.int .u8 0).cells m).toList++cur.toList.drop (n+(Builtin.zeroCells (Value.int .u8 0).cells m).toList.length)).toArray,?_,⟨⟨hlen,.inr ⟨g0,c1,_,rfl,hbg,setRow_heap w g0 cur _ _ _ hgc,hroom,hcm,?_,?_⟩⟩,fun g hg=>?_⟩,⟨rfl,rfl,rfl,by simp,fun k _ hk=>setRow_other w g0 k _ (fun e=>hk (by simp[Value.ownBlock,e]))⟩⟩
   .simp[Builtin.append_,run_underlying ht,run_underlying htn,sizeOf,typeInfo,zeroValue,hi',hz0,hz1,hz2,asInt,asIntOf,hw,hneg,h48,hmn,hroom,Addr.add_lit,hst]
   .simp only[rJ,vG,zQ,zW,U5,hzs];omega
   .simp only[qbK];rw[hcur,hzl,<-qbH];have e2:n+m=((l++List.replicate m 0).map jJ).length:=by rw[hlen,qbK]
    rw[e2];exact List.take_left
   .cases hg
    refine⟨_,setRow_heap _ _ _ _ _ _ hgc,fun u hu=>?_⟩;simp only[UY] at hu;rcases hu with(hu|hu)|hu
    .exact hcs2 u (qbY hu)
    .exact mZ m u hu
    .exact hcs2 u (List.mem_of_mem_drop hu)
  .have holds:∀ j u,(l.map jJ)[j]? = some u->w.cell? ((⟨g0,0,none⟩:Addr).add j)=some u:=h.own.cells (g:=g0) rfl
   have h63':¬ (9223372036854775807<((n:Int)+(m:Int))):=by omega
   have hnx:=growslice_fits (need:=n+m) (old:=c1) (bytes:=1) (by omega) (by omega);have h48':¬ (281474976710656<Builtin.nextslicecap (n+m) c1):=by omega
   have hfo:=run_firstCells_some (P:=qp0) w.drew 1 n ⟨g0,0,none⟩ n c1 (l.map jJ) (by simp[hn]) (by simpa using holds);have hge:=grownCap_ge w (n+m) c1 5;have hcm2:=grownCap_le_maxLen w (n+m) c1 5 (by unfold maxLen;omega);refine⟨_,_,w.drew.alloc (.cells ((l.map jJ).toArray++Builtin.zeroCells (Value.int .u8 0).cells m++Builtin.zeroCells (Value.int .u8 0).cells (grownCap w (n+m) c1 5-(n+m))) 5),?_,⟨⟨hlen,.inr ⟨w.heap.size,grownCap w (n+m) c1 5,_,rfl,hbase,heap_alloc_new w.drew _,hge,hcm2,?_,?_⟩⟩,fun g hg=>?_⟩,⟨rfl,rfl,rfl,by simp,fun k hk _=>heap_alloc_old w.drew _ hk⟩⟩
   .simp[Builtin.append_,run_underlying ht,run_underlying htn,sizeOf,typeInfo,zeroValue,hi',hz0,hz1,hz2,asInt,asIntOf,hw,hneg,h48,hmn,hroom,h63',h48',Question.forced,hfo,newRow,grownCap]
   .rw[Array.size_append,Array.size_append,hzs];have:(Builtin.zeroCells (Value.int .u8 0).cells (grownCap w (n+m) c1 5-(n+m))).size=grownCap w (n+m) c1 5-(n+m):=by rw[<-U5,zR];simp
    rw[this];simp only[rJ,V7,hn];omega
   .simp only[qbx,hzl];rw[<-qbH];have e2:(n+m)*1=((l++List.replicate m 0).map jJ).length:=hlen.symm;rw[e2];exact List.take_left
   .cases hg
    refine⟨_,heap_alloc_new w.drew _,fun u hu=>?_⟩;simp only[qbx,UY] at hu;rcases hu with(hu|hu)|hu
    .exact xQ l u (by simpa using hu)
    .exact mZ _ u hu
    .exact mZ _ u hu
theorem sO{ops:Array Oper}{rest:List Oper}{o:Oper}{a:Act}{w:World}{Q:Exit->Act->World->Prop}(hgd:o.guard=none)(s x:Operand)(ho:o.op=.call {callee:=.builtin .append,args:=#[s,x],argTypes:=#[22,22]})(base:Nat){a1:Option Addr}{n c1:Nat}{l:List UInt8}(hs:a.eval s=.slice a1 n c1)(h:kF w base (.slice a1 n c1) n l){a2:Option Addr}{m c2:Nat}{l2:List UInt8}(hx:a.eval x=.slice a2 m c2)(hsrc:Bs w a2 m c2 l2)(hb:n+m<=140737488355328)(hbase:base<=w.heap.size)(hk:∀ a' c' w',kF w' base (.slice a' (n+m) c') (n+m) (l++l2)->w.grownBy w' (Value.slice a1 n c1).ownBlock->wpList qp0 ops Q rest (a.put o.dst (.slice a' (n+m) c')) w'):wpList qp0 ops Q (o::rest) a w:=by
 have hl:=hsrc.len
 cases a2 with
 | none =>
  obtain⟨rfl,rfl⟩:=hsrc.2.2.2.2 rfl;have hl2:l2=[]:=O8 hl;subst hl2;obtain⟨i,hi',hz0,hz1,hz2⟩:=Dw;refine Lib.wpList_append_run w hgd s x _ _ ho _ _ hs hx _ _ (run_append_owned_none (P:=qp0) w base 22 o.type 5 i 1 underlying22 hi' _ n _ h.own) ?_;have:=hk a1 c1 w (by rw[R4,Qq];exact h) ⟨rfl,rfl,rfl,aY _,fun _ _ _=>rfl⟩;rw[R4] at this;exact this
 | some ad =>
  obtain⟨a',c',w',hr,h2,h3⟩:=YZ o.type h (ad:=ad) (m:=m) (c2:=c2) hl (fun j u hj=>by
   obtain⟨y,hy,hv⟩:=hsrc.2.2.2.1 j u hj
   cases hy
   exact hv) hb hbase
  exact Lib.wpList_append_run w hgd s x _ _ ho _ _ hs hx _ _ hr (hk a' c' w' h2 h3)
def afk(w:World)(l:List UInt8)(e:Ending)(w':World):Prop :=∃ a n c,e=.returned (.slice a n c)/\kF w' w.heap.size (.slice a n c) n l/\Below w.heap.size w w'
theorem ab3(w:World)(base:Nat)(hb:base<=w.heap.size):kF (w.alloc (.cells #[] 5)) base (.slice (some ⟨w.heap.size,0,none⟩) 0 0) 0 [] :=⟨World.ownsRow_lit (base:=base) (e:=5) (size:=1) w #[] 0 hb (by decide) rfl,fun g hg=>by cases hg;exact⟨_,heap_alloc_new w _,by simp⟩⟩
theorem Ku(a:Option Addr)(n c:Nat)(x:List UInt8)(w:World)(ha:Bs w a n c x)(hn:n<=140737488355328):Calls qp0 20 #[.slice a n c] w (afk w x):=by
 obtain rfl:=ha.len;have ho0:=ab3 w w.heap.size (aY _);go_enter func20,ntmps20;go_wp2_with (at_builtin;refine sO rfl _ _ rfl w.heap.size rfl ho0 rfl ((Keeps.alloc w _).bs ha) (by omega) (by simp) ?_;intro a1 c1 w1 ho hg)
 go_ret;simp only[lU,yG] at ho ⊢;exact⟨a1,_,c1,rfl,ho,below_app ((Below.refl _ _).alloc (aY _) _) ho0.own hg (aY _) (by simp)⟩
namespace St
def hA:Hd:={name:=[97],link:=[],mode:=0,uid:=0,gid:=0,size:=3,mtime:=0,ty:=48,user:=[],group:=[],major:=0,minor:=0,form:=0}
theorem abN:Ol hA:=⟨by decide,by decide,by decide,by decide,by decide,by decide,by decide⟩
theorem ab7:afM hA:=⟨by decide,by decide,by decide,by decide⟩
def iA:List UInt8:=(Plain.make hA).1
theorem lN:iA.length=512:=by kernel_rfl
theorem Ra:rO hA=true:=by kernel_rfl
theorem XB:∀ k,k<7->(Plain.fA (Ct hA k) (JI k)).2=0:=by
 intro k hk;rcases (by omega:k=0\/k=1\/k=2\/k=3\/k=4\/k=5\/k=6) with rfl|rfl|rfl|rfl|rfl|rfl|rfl <;> kernel_rfl
theorem abK:Plain.make hA=(iA,0):=by kernel_rfl
def Ig:List UInt8:=iA++[120,121,122]++List.replicate 509 0
theorem ac0{w:World}{b:Nat}{t:TypeId}{l:List UInt8}(h:w.heap[b]? = some (.cells (aL l) t))(hm:l.length<=maxLen):Bs w (some ⟨b,0,none⟩) l.length l.length l:=by
 refine⟨by simp,aY _,hm,fun j v hj=>⟨_,rfl,?_⟩,fun h=>by cases h⟩;rw[Addr.add_lit,lU,cell_of_row _ _ _ _ _ _ h];rw[<-qaV];exact hj
theorem kF.some'{w:World}{base:Nat}{a:Option Addr}{n c:Nat}{l:List UInt8}(h:kF w base (.slice a n c) n l)(h0:n≠0):∃ A,a=some A:=by
 rcases h.own.2 with⟨e,hn⟩|⟨g,cap,cur,e,_⟩
 .exact absurd hn h0
 .cases e;exact⟨_,rfl⟩
theorem abr(w:World)(hT:EZ w):Calls qp0 39 #[] w (afk w Ig):=by
 have HM:=ah (BK hA abN ab7 Ra XB w hT);rw[abK] at HM;have HI:=ah (iL iA lN);have HO:=ah (sI iA);have HZ:=ah Bw;have qj:Hid ((aL cZ).size=(aL iA).size):=ah (by rw[eZ,eZ,lN,nS]);go_enter func39,ntmps39;go_upto_region 2 with(first|(go_at_call 37;refine(HM.out).mono ?_;rintro e w1 ⟨rfl,hb1⟩)|(with_reducible first|refine bV rfl _ rfl (aL cZ) HZ.out ?_|refine kC rfl _ _ _ rfl _ rfl (aL iA) rfl rfl qj.out HI.out HO.out ?_))
 have hb2:Below w.heap.size w (w1.alloc (.cells (aL iA) 70)):=hb1.alloc hb1.size _;have hr2:(w1.alloc (.cells (aL iA) 70)).heap[w1.heap.size]? = some (.cells (aL iA) 70):=heap_alloc_new w1 _;have hl2:w1.heap.size<(w1.alloc (.cells (aL iA) 70)).heap.size:=by simp
 generalize hbk:w1.heap.size=bk at *
 generalize w1.alloc (.cells (aL iA) 70)=w2 at *
 have HB2:=ah hb2;clear hb2 hb1 hbk;have ho3:=ab3 w2 w.heap.size HB2.out.size;have hb3:Below w.heap.size w (w2.alloc (.cells #[] 5)):=HB2.out.alloc HB2.out.size _;have hblk:Bs (w2.alloc (.cells #[] 5)) (some ⟨bk,0,none⟩) 512 512 iA:=by
  have h:=ac0 (l:=iA) (((Below.refl w2.heap.size w2).alloc (aY _) _:Below w2.heap.size w2 (w2.alloc (.cells #[] 5))).block bk hl2 |>.trans hr2) (by rw[lN];unfold maxLen;omega);rw[lN] at h;exact h
 go_upto_region 4 with(at_builtin;refine sO rfl _ _ rfl w.heap.size rfl ho3 rfl hblk (by decide) hb3.size ?_;intro a4 c4 w4 Rs hg4)
 have hb4:Below w.heap.size w w4:=below_app hb3 ho3.own hg4 (aY _) hb3.size;simp only[lU,yG] at Rs;clear hg4 ho3 hb3 hblk hr2 hl2 HB2;have hcv:=Lib.run_convert_bytes_const (P:=qp0) w4 22 5 #[.int .u8 120,.int .u8 121,.int .u8 122] 3 3 underlying22 underlying5;have hs5:Bs (w4.alloc (.cells #[.int .u8 120,.int .u8 121,.int .u8 122] 5 (3,4))) (some ⟨w4.heap.size,0,none⟩) 3 3 [120,121,122]:=Sg w4 5 1 3 #[.int .u8 120,.int .u8 121,.int .u8 122] (3,4) rfl (by decide);have ho5:=Rs.alloc (.cells #[.int .u8 120,.int .u8 121,.int .u8 122] 5 (3,4));have hb5:Below w.heap.size w (w4.alloc (.cells #[.int .u8 120,.int .u8 121,.int .u8 122] 5 (3,4))):=hb4.alloc hb4.size _;go_upto_region 5 with(at_builtin;refine sO rfl _ _ rfl w.heap.size rfl ho5 rfl hs5 (by decide) hb5.size ?_;intro a6 c6 w6 ho6 ET)
 have hb6:Below w.heap.size w w6:=below_app hb5 ho5.own ET (aY _) hb5.size;clear ET ho5 hb5 hs5 Rs hb4;obtain⟨A6,rfl⟩:=kF.some' ho6 (by decide);obtain⟨a7,c7,w7,OV,Pd,Lp⟩:=GH (w:=w6) 22 3 ⟨_,underlying3⟩ ho6 (m:=509) (by decide) (by decide) hb6.size;go_wp2_with (at_builtin;refine Lib.wpList_append_run _ rfl _ _ _ _ rfl _ _ rfl rfl _ _ OV ?_)
 go_ret;exact⟨some a7,_,c7,rfl,Pd,below_app hb6 ho6.own Lp (aY _) hb6.size⟩
end St
section
open Go.Conc
namespace Cc
def LA:List FuncId:=[15,17,19,20,21,22,23,37,39,48,49,67,68,69,70,71,73,87,106,107,108,127,139,140,141,161,171,172,173,174,175,176,177,200,201,202,203,204,205,206,207,208,231,232,233,234,235,236,237,252,253]
theorem WX:∀ f,yI qp0 LA f=true->f=161\/f=236\/f=237:=by
 intro f h;have key:(LA.all fun f=>!(yI qp0 LA f)||(f==161||(f==236||f==237)))=true:=by kernel_rfl
 have hm:f∈LA:=by unfold yI at h;rw[fE] at h;simpa using h.1
 rw[Ej] at key;have:=key f hm;rw[h] at this;simpa using this
theorem agU:J8 qp0 LA:=by
 intro f h args;rcases WX f h with rfl|rfl|rfl
 .exact Qe func161 (by simp only[Tryz.f161];decide) rfl rfl rfl Iy args
 .exact Qe func236 (by simp only[Tryz.f236];decide) rfl rfl rfl MC args
 .exact Qe func237 (by simp only[Tryz.f237];decide) rfl rfl rfl (Fq _ _) args
theorem okA:fO qp0 LA:=F7 (by kernel_rfl) agU
end Cc
end
section
open Go.Conc
namespace Cc
section
variable {P:Program}{ops:Array Oper}{b:Frame}{k:List Item}{cs:List Frame}{Φ:Goroutine->World->Prop}
def gW(P:Program)(md:Region.Mode)(ops:Array Oper)(b:Frame)(k:List Item)(cs:List Frame)(Φ:Goroutine->World->Prop):Nat->Array Bool->Act->World->Prop
 | 0,listed,a,w=>BW P (G (b.at a (.inRegion ops []::k)) cs) w Φ
 | fuel+1,listed,a,w =>
  (Region.ready md ops listed=[]->BW P (G (b.at a (.inRegion ops []::k)) cs) w Φ) /\
  ∀ i∈Region.ready md ops listed,∀ rest,(∀ a' w',gW P md ops b k cs Φ fuel (listed.setIfInBounds i true) a' w'->BW P (G (b.at a' (.inRegion ops rest::k)) cs) w' Φ) ->
   BW P (G (b.at a (.inRegion ops (i::rest)::k)) cs) w Φ
theorem Mq{md:Region.Mode}:∀ (fuel t:Nat)(listed:Array Bool)(a:Act)(w:World),gW P md ops b k cs Φ fuel listed a w->BW P (G (b.at a (.inRegion ops (Region.linearise.go md ops fuel t listed [])::k)) cs) w Φ:=by
 intro fuel
 induction fuel with
 | zero=>intro t listed a w h;unfold gW at h;simpa[Region.linearise.go] using h
 | succ fuel ih =>
  intro t listed a w h;obtain⟨h₀,θ⟩:=h;simp only[Region.linearise.go]
  change BW P (G (b.at a (.inRegion ops (match (Region.ready md ops listed)[t%(Region.ready md ops listed).length]? with
   | some i=>Region.linearise.go md ops fuel (t / (Region.ready md ops listed).length) (listed.setIfInBounds i true) [i]
   | none=>[].reverse)::k)) cs) w Φ
  cases hi:(Region.ready md ops listed)[t%(Region.ready md ops listed).length]? with
  | none =>
   have hnil:Region.ready md ops listed=[]:=by
    cases hr:Region.ready md ops listed with
    | nil=>rfl
    | cons x xs =>
     rw[hr] at hi;have hlt:t%(x::xs).length<(x::xs).length:=qcz _ (by simp);simp at hi;simp at hlt;omega
   simpa using h₀ hnil
  | some i =>
   simp only[];rw[linearise_go_acc,qcc,qcm];exact θ i (qbb hi) _ fun a' w' h'=>ih _ _ a' w' h'
theorem BW.PX{id:Nat}{a:Act}{w:World}(hm:P.follows .mixedOrders=true)(h:gW P .any ops b k cs Φ ops.size (Array.replicate ops.size false) a w)(hat:∀ d,gW P .any ops b k cs Φ ops.size (Array.replicate ops.size false) a (w.at d)):BW P (G (b.at a (.code (.region id ops true)::k)) cs) w Φ:=by
 refine BW.step rfl fun d=>⟨_,{(w.at d) with drawn:=(w.at d).drawn+1},#[],stepG_region_draw,aY _,by simp,?_⟩
 have:=Mq ops.size ((w.at d).tape (w.at d).drawn (.order b.fn id)) _ a _ (hat (d+1));simp only[Region.schedule,hm,Bool.true_or,if_true];exact this
theorem YI{md:Region.Mode}:∀ (fuel:Nat)(listed:Array Bool)(a:Act)(w:World)(d:Nat),gW P md ops b k cs Φ fuel listed a w->gW P md ops b k cs Φ fuel listed a (w.at d)
 | 0,listed,a,w,d,h=>BW.at h d
 | fuel+1,listed,a,w,d,h=>⟨fun hr=>(h.1 hr).at d,fun i hi rest hn=>(h.2 i hi rest hn).at d⟩
theorem BW.draw{id:Nat}{a:Act}{w:World}(hm:P.follows .mixedOrders=true)(h:gW P .any ops b k cs Φ ops.size (Array.replicate ops.size false) a w):BW P (G (b.at a (.code (.region id ops true)::k)) cs) w Φ :=BW.PX hm h fun d=>YI _ _ _ _ d h
end
end Cc
end
section
open Go.Conc
open Cc (tp)
namespace St
open Cc (BW fI eP lK pJ okA)
open Sr (dW iM bU)
def XT:List UInt8:=Ig++List.replicate 1024 0
def acH:En:={kind:=1,name:=[97],link:=[],mode:=0,uid:=0,gid:=0,user:=[],group:=[],sec:=0,nano:=0,data:=[120,121,122]}
theorem Vp:Plain.jA XT ⟨10,0⟩=⟨[acH],0,2048,0⟩:=by kernel_rfl
theorem Oa:Ig.length=1024:=by kernel_rfl
theorem Ee:(qp0.info? 30).bind (·.zero)=some (.agg #[.slice none 0 0,.int .i64 0,.int .i64 0,.int .i64 0]):=by kernel_rfl
theorem aas:Plain.sealed iA=true:=by kernel_rfl
theorem CQ{ε:Nat×Nat}{D:Nat->Prop}{t:Array Value}{w w':World}{a:Option Addr}{n c:Nat}(h:bU qp0 (dW ε) (fun _=>False) D t w)(hb:fI w w')(hz:ZB w' (.slice a n c))(hge:∀ g,(Value.slice a n c).ownBlock=some g->w.heap.size<=g):∃ D',bU qp0 (dW ε) (fun _=>False) D' #[.slice a n c] w'/\∀ b,D b->D' b:=by
 have h0:bU qp0 (dW ε) (fun _=>False) D #[] w:=⟨h.off,h.gb,h.bnd,h.heap,.nil⟩;have h1:bU qp0 (dW ε) (fun _=>False) D #[] w':=o7 h0 hb fun b hb=>hb.elim
 cases a with
 | none=>exact⟨D,⟨h1.off,h1.gb,h1.bnd,h1.heap,dz (by intro u hu;simp at hu;subst hu;exact .iq _ _)⟩,fun b hb=>hb⟩
 | some A =>
  obtain⟨cs,hg1,hg2⟩:=hz A.block rfl;have hlt:A.block<w'.heap.size:=(fT.1 hg1).1;have hge:=hge A.block rfl;have hmono:∀ x y,Sr.mQ D x y->Sr.mQ (fun b=>D b\/b=A.block) x y:=fun x y hxy=>⟨hxy.1,.inl hxy.2⟩
  have hf:(dW ε) (2*A.block+1000000001)=false:=by
   cases hx:(dW ε) (2*A.block+1000000001) with
   | false=>rfl
   | true=>have:=h.heap.oq _ hx;omega
  refine⟨fun b=>D b\/b=A.block,⟨fun b hb=>hb.elim,⟨⟨fun a a' b h h'=>h.1.trans h'.1.symm,fun a b b' h h'=>h.1.symm.trans h'.1⟩,fun g hg b h=>h.1.symm,fun g hg a h=>h.1,fun g hg=>⟨rfl,.inl (h1.gb.gl g hg).2⟩⟩,?_,⟨fun x y hxy=>?_,h1.heap.opq,fun x y hxy=>?_⟩,dz (by intro u hu;simp at hu;subst hu;exact .slice _ _ _ _ ⟨⟨rfl,.inr rfl⟩,rfl,rfl⟩)⟩,fun b hb=>.inl hb⟩
  .rintro b (hb|rfl)
   .exact h1.bnd b hb
   .exact hlt
  .obtain⟨rfl,hxy⟩:=hxy;rcases hxy with hxy|rfl
   .exact(h1.heap.rel x x ⟨rfl,hxy⟩).mono hmono
   .rw[hg1];exact .some (.cells _ _ _ _ (dz (fun u hu=>by obtain⟨x,rfl⟩:=hg2 u hu;exact .int _ _)))
  .obtain⟨rfl,hxy⟩:=hxy;rcases hxy with hxy|rfl
   .exact h1.heap.Af x x ⟨rfl,hxy⟩
   .exact⟨hf,hf⟩
theorem QA{w w':World}(h:fI w w')(k:EZ w):EZ w':=EZ.below (w:=tp w w'.tape w'.drawn) k h
theorem XP{w:World}{ao:Option Addr}{n c:Nat}{l:List UInt8}(hb:Bs w ao n c l):(convert 22 9 (.slice ao n c)).run qp0 w=.ok (.string ⟨l.toArray⟩) w:=by
 cases ao with
 | none =>
  obtain⟨rfl,rfl⟩:=hb.2.2.2.2 rfl;have:l=[]:=O8 hb.len;subst this;exact run_convert_bytes_nil w _ _ underlying22 underlying5 0 0 _ underlying9
 | some ad =>
  obtain rfl:=hb.len;exact run_convert_bytes_back w _ _ _ ad c l underlying22 underlying5 underlying9 (fun j hj=>by
   obtain⟨x,hx,hc⟩:=hb.2.2.2.1 j (jJ l[j]) (by simp[kM hj])
   cases hx
   exact hc)
section
variable {ε:Nat×Nat}{Φ:Goroutine->World->Prop}{b:Frame}{a:Act}{k:List Item}{cs:List Frame}{w:World}{ops:Array Oper}{i:Nat}{rest:List Nat}{o:Oper}
noncomputable def WA:Code:=Tryz.f38.body.getD .skip
theorem abo:Sr.kg qp0 (dW ε) Sr.kW [] WA=true:=by kernel_rfl
noncomputable def Yk:Code:=Tryz.f14.body.getD .skip
theorem Vb(ho:ops[i]? = some o)(hwt:Region.wanted o (yielded ops a.tmps)=true)(hk:b.kind≠.early)(hop:o.op=.call {callee:=.value (.func 14),args:=#[],argTypes:=#[]}){ev:Value}(hml:uF w)(her:eO w ev)(hpw:lV w)(hbr:EZ w){D:Nat->Prop}(hcl:bU qp0 (dW ε) (fun _=>False) D #[] w)(hn:∀ w',fI w w'->BW qp0 (G (b.at (a.put o.dst (.bool true)) (.inRegion ops rest::k)) cs) w' Φ):BW qp0 (G (b.at a (.inRegion ops (i::rest)::k)) cs) w Φ:=by
 have hname:(Tryz.f14.name == "runtime.NumGoroutine")=false:=by simp only[Tryz.f14];decide
 have hbody:Tryz.f14.body=some Yk:=by simp only[Yk,Tryz.f14,Option.getD_some]
 have hts:(#[]:Array Value)++Array.replicate (Tryz.f14.ntmps-(#[]:Array Value).size) au=#[au,au,au,au,au,au,au,au,au,au,au,au,au,au,au,au,au,au,au,au,au,au,au,au,au,au,au,au,au,au,au,au,au,au,au,au,au,au,au,au,au,au,au,au,au,au,au]:=by kernel_rfl
 refine Cc.BW.enter ho hwt hk hop func14 hname hbody (vs:=#[]) (by simp) hts fun pf hpf=>?_
 simp only[Yk,Tryz.f14,Option.getD_some];refine BW.seq ?_;refine BW.region ?_;simp only[rJ,oH,List.length_nil,Nat.reduceAdd,lU,List.range'];refine BW.move rfl rfl (by decide) (.inr rfl) ?_;walk_nrm;refine BW.rend ?_;refine BW.seq ?_;refine BW.region ?_;simp only[rJ,oH,List.length_nil,Nat.reduceAdd,lU,List.range'];refine BW.jU rfl rfl (by decide) (.agg (dQ hA)) (fun ω=>by constructor <;> kernel_rfl) ?_;walk_nrm;refine BW.call (Rr:=fun v w'=>v=.tuple #[.agg (aL iA),.int .i64 0]/\fI w w') rfl rfl (by decide) rfl okA (by kernel_rfl) func37 rfl (vs:=#[.agg (dQ hA)]) (by simp[Act.eval]) (fun τ d=>(BK hA abN ab7 Ra XB (tp w τ d) hbr).mono fun e w' hq=>by rw[abK] at hq;exact⟨_,hq.1,rfl,.pR hq.2⟩) (fun v w' τ d hq=>⟨hq.1,hq.2.tp τ d⟩) fun v w1 hv=>?_
 obtain⟨rfl,hb1⟩:=hv;walk_nrm;refine BW.move rfl rfl (by decide) (.inl rfl) ?_;walk_nrm;refine BW.jU rfl rfl (by decide) _ (fun ω=>eP rfl rfl rfl ω) ?_;walk_nrm;refine BW.jU rfl rfl (by decide) _ (fun ω=>eP rfl rfl rfl ω) ?_;walk_nrm;refine Cc.BW.TV (pv w1.heap.size) (Rw:=fun y=>fI w1 y/\y.heap[w1.heap.size]? = some (.cells (aL cZ) 70)) LG rfl (by decide) rfl (fun τ d=>bV rfl _ rfl (aL cZ) Bw ⟨rfl,rfl,.pR (τ:=τ) (d:=d) ((Below.refl _ (tp w1 τ d)).alloc (aY _) _),heap_alloc_new _ _⟩) (fun w' τ d hr=>⟨hr.1.tp τ d,hr.2⟩) fun w2 hr2=>?_
 obtain⟨hb2,hr2⟩:=hr2;walk_nrm;have hsz:(aL cZ).size=(aL iA).size:=by rw[eZ,eZ,lN,nS]
 refine Cc.BW.TV au (Rw:=fun y=>fI w1 y/\y.heap[w1.heap.size]? = some (.cells (aL iA) 70)) LG rfl (by decide) rfl (fun τ d=>wpList_store_row rfl _ _ _ rfl w1.heap.size rfl (aL iA) rfl (aL cZ) 70 hr2 hsz (iL iA lN) (sI iA) ⟨rfl,rfl,?_,setRow_heap _ _ _ _ _ _ hr2⟩) (fun w' τ d hr=>⟨hr.1.tp τ d,hr.2⟩) fun w3 hr3=>?_
 .exact .pR (τ:=τ) (d:=d) ⟨hb2.os,rfl,hb2.output,by rw[size_setRow];exact hb2.size,fun k hk=>(setRow_other _ _ _ _ (Nat.ne_of_lt hk)).trans (hb2.block k hk)⟩
 obtain⟨hb3,hr3⟩:=hr3;clear hr2 hb2;walk_nrm;refine BW.move rfl rfl (by decide) (.inr rfl) ?_;walk_nrm;refine BW.rend ?_;refine BW.seq ?_;refine BW.seq ?_;refine BW.region ?_;simp only[rJ,oH,List.length_nil,Nat.reduceAdd,lU,List.range'];refine Cc.BW.TV (.agg (aL iA)) (Rw:=fun y=>∃ τ d,y=tp w3 τ d) LG rfl (by decide) rfl (fun τ d=>?_) (fun w' τ d hr=>⟨τ,d,by obtain⟨_,_,rfl⟩:=hr;rfl⟩) fun w4 hr4=>?_
 .refine cK rfl _ _ rfl w1.heap.size 0 rfl (aL iA) _ (fun j v hj=>?_) underlying70 rfl (by rw[show(aL iA).toList.length=(aL iA).size from rfl];exact iL iA lN) ⟨rfl,rfl,τ,d,rfl⟩;rw[lU,cell_of_row _ _ _ _ _ _ (show(tp w3 τ d).heap[w1.heap.size]? = _ from hr3)];rw[<-qaV];exact hj
 obtain⟨τ,d,rfl⟩:=hr4;walk_nrm;have aaf:fI w (tp w3 τ d):=(hb1.seq hb3).tp τ d;generalize tp w3 τ d=w4 at aaf;have aep:=tH aaf her;have Iw:bU qp0 (dW ε) (fun _=>False) D (#[.agg (aL iA)]++Array.replicate (Tryz.f38.ntmps-(#[.agg (aL iA)]:Array Value).size) au) w4:=by
  have h:=o7 (S':=fun _=>False) hcl aaf fun b hb=>hb.elim
  refine⟨h.off,h.gb,h.bnd,h.heap,Sr.AV.app (dz fun u hu=>?_) (Sr.AV.abx _ Sr.dG)⟩;simp at hu;subst hu;exact .DC (dz fun u hu=>by
   obtain⟨x,_,rfl⟩:=ZW.1 (show u∈iA.map jJ by simpa[aL] using hu);exact .int _ _)
 refine Sr.ZN (D:=D) (c:=WA) Vn Ud WG rfl rfl (by decide) rfl func38 (by simp only[Tryz.f38];decide) (by simp only[WA,Tryz.f38,Option.getD_some]) (vs:=#[.agg (aL iA)]) (by simp[Act.eval]) rfl Iw abo (Rr:=fun v w'=>v=.bool true/\fI w4 w')
  (fun τ d=>(vE iA lN (tp w4 τ d) ev aep).mono fun e w' hq=>by rw[aas] at hq;exact⟨_,hq.1,rfl,.pR hq.2⟩) (fun v w' τ d hq=>⟨hq.1,hq.2.tp τ d⟩) fun v w5 hv=>?_
 obtain⟨rfl,hb5⟩:=hv;have adW:fI w w5:=aaf.seq hb5;clear Iw aep;walk_nrm;refine BW.jU rfl rfl (by decide) (.bool false) (fun ω=>by constructor <;> kernel_rfl) ?_;walk_nrm;refine BW.rend ?_;refine BW.cond (t:=false) rfl ?_;simp only[jI,if_false];refine BW.skip ?_;refine BW.seq ?_;refine BW.region ?_;simp only[rJ,oH,List.length_nil,Nat.reduceAdd,lU,List.range'];refine BW.call (Rr:=fun v w'=>∃ a n c,v=.slice a n c/\kF w' w5.heap.size (.slice a n c) n Ig/\fI w5 w') rfl rfl (by decide) rfl okA (by kernel_rfl) func39 rfl (vs:=#[]) (by simp) (fun τ d=>(abr (tp w5 τ d) (QA (adW.tp τ d) hbr)).mono fun e w' hq=>by
  obtain⟨x,n,c,rfl,h1,h2⟩:=hq;exact⟨_,rfl,x,n,c,rfl,h1,.pR h2⟩) (fun v w' τ d hq=>by
  obtain⟨x,n,c,rfl,h1,h2⟩:=hq;exact⟨x,n,c,rfl,h1.kept fun _ _=>rfl,h2.tp τ d⟩) fun v w6 hv=>?_
 obtain⟨x6,n6,c6,rfl,ho6,hb6⟩:=hv;walk_nrm;have hn6:n6=1024:=by rw[<-Bh ho6.own];exact Oa
 subst hn6;obtain⟨A6,rfl⟩:=kF.some' ho6 (by decide);refine Cc.BW.op1 (Rr:=fun x y=>∃ a' c',x=⟨#[.bool false,pv w1.heap.size,.int .i64 0,au,.tuple #[.agg (aL iA),.int .i64 0],.agg (dQ hA),.tuple #[.agg (aL iA),.int .i64 0],.agg (aL iA),.int .i64 0,.agg (aL iA),.bool true,.bool false,.slice (some A6) 1024 c6,.slice (some a') 2048 c',au,au,au,au,au,au,au,au,au,au,au,au,au,au,au,au,au,au,au,au,au,au,au,au,au,au,au,au,au,au,au,au,au],[]⟩/\kF y w5.heap.size (.slice (some a') 2048 c') 2048 XT/\fI w5 y) LG rfl (by decide) rfl (fun τ d=>?_) (fun x y τ d hq=>?_) fun x w7 hq=>?_
 .obtain⟨a7,c7,w7,OV,Pd,Lp⟩:=GH (w:=tp w6 τ d) 22 3 ⟨_,underlying3⟩ (ho6.kept (w':=tp w6 τ d) fun _ _=>rfl) (m:=1024) (by decide) (by decide) hb6.size;refine Lib.wpList_append_run _ rfl _ _ _ _ rfl _ _ rfl rfl _ _ OV ⟨rfl,a7,c7,rfl,Pd,?_⟩;have:=below_app (B:=w5.heap.size) (w0:=tp w5 τ d) (w:=tp w6 τ d) ⟨hb6.os,rfl,hb6.output,hb6.size,hb6.block⟩ (ho6.kept (w':=tp w6 τ d) fun _ _=>rfl).own Lp (aY _) hb6.size;exact .pR (τ:=τ) (d:=d) this
 .obtain⟨a',c',h1,h2,h3⟩:=hq;exact⟨a',c',h1,h2.kept fun _ _=>rfl,h3.tp τ d⟩
 obtain⟨a7,c7,rfl,Pd,mq⟩:=hq;have Vu:fI w w7:=adW.seq mq;refine BW.jU rfl rfl (by decide) (nV ⟨10,0⟩) (fun ω=>by constructor <;> kernel_rfl) ?_;walk_nrm;obtain⟨D7,ags,_⟩:=CQ hcl Vu Pd.cl (fun g hg=>tT adW.size (Pd.own.lt g hg).1);refine JX (ε:=ε) (lim:=⟨10,0⟩) (data:=XT) rfl rfl (by decide) rfl rfl rfl (OY Pd.own) (by decide) (xP Vu hml) (tH Vu her) (xW Vu hpw) ags fun v w8 hv=>?_
 obtain⟨⟨x8,n8,c8,Q,rfl,hQ,ho8,hd8⟩,Zi⟩:=hv;rw[Vp] at hQ;rw[Vp];walk_nrm;obtain⟨y8,rfl⟩:∃ y,Q=[(acH,y)]:=by
  rcases Q with _|⟨⟨e,y⟩,_|⟨q,Q⟩⟩
  .cases hQ
  .simp at hQ;subst hQ;exact⟨y,rfl⟩
  .simp at hQ
 have hn8:n8=1:=by have:=ho8.1;simp only[qbr,List.flatMap_nil,Qq,iy] at this;omega
 subst hn8;have hd8:=hd8 _ (qbk.2 rfl);refine Cc.BW.TV (pv w8.heap.size) (Rw:=fun y=>fI w8 y/\y.heap[w8.heap.size]? = some (.cells #[.slice none 0 0,.int .i64 0,.int .i64 0,.int .i64 0] 30)) LG rfl (by decide) rfl (fun τ d=>bV rfl _ rfl _ Ee ⟨rfl,rfl,.pR (τ:=τ) (d:=d) ((Below.refl _ (tp w8 τ d)).alloc (aY _) _),heap_alloc_new _ _⟩) (fun w' τ d hr=>⟨hr.1.tp τ d,hr.2⟩) fun w9 MP=>?_
 obtain⟨Xi,MP⟩:=MP;walk_nrm;refine Cc.BW.TV au (Rw:=fun y=>fI w8 y/\y.heap[w8.heap.size]? = some (.cells #[.slice x8 1 c8,.int .i64 0,.int .i64 2048,.int .i64 0] 30)) LG rfl (by decide) rfl (fun τ d=>wpList_store_row rfl _ _ _ rfl w8.heap.size rfl #[.slice x8 1 c8,.int .i64 0,.int .i64 2048,.int .i64 0] rfl _ 30 MP rfl (by kernel_rfl) (by intro u hu;simp at hu;rcases hu with rfl|rfl|rfl|rfl <;> rfl) ⟨rfl,rfl,?_,setRow_heap _ _ _ _ _ _ MP⟩) (fun w' τ d hr=>⟨hr.1.tp τ d,hr.2⟩) fun MO aaC=>?_
 .exact .pR (τ:=τ) (d:=d) ⟨Xi.os,rfl,Xi.output,by rw[size_setRow];exact Xi.size,fun k hk=>(setRow_other _ _ _ _ (Nat.ne_of_lt hk)).trans (Xi.block k hk)⟩
 obtain⟨P9,aaC⟩:=aaC;clear MP Xi;walk_nrm;refine BW.rend ?_;have aeE:fI w MO:=Vu.seq (Zi.seq P9);refine BW.rest (L:=Cc.LA) okA func14 (by kernel_rfl) (Post:=fun v w'=>v=.bool true/\fI MO w') (fun τ d=>?_) (fun v w' τ d hq=>⟨hq.1,hq.2.tp τ d⟩) fun v w' hq=>?_
 .rcases ho8.2 with⟨he,h0⟩|⟨g8,cap,cur,he,hg1,hg2,hg3,hg4,hg5,ET⟩
  .cases h0
  cases he
  have afv:g8<w8.heap.size:=(fT.1 hg2).1;have aeZ:(tp MO τ d).heap[g8]? = some (.cells cur 42):=(P9.block g8 afv).trans hg2;have hce:∀ j v,(fG (acH,y8))[j]? = some v->(tp MO τ d).cell? ⟨g8,j,none⟩=some v:=fun j v hj=>by
   rw[cell_of_row _ _ _ _ _ _ aeZ];have hj2:(cur.toList.take (1*11))[j]? = some v:=by rw[ET];simpa using hj
   rw[VX] at hj2;split at hj2
   .rw[<-qaV];exact hj2
   .cases hj2
  have he1:(tp MO τ d).cell? ⟨g8,1,none⟩=some (.string ⟨#[97]⟩):=hce 1 _ rfl;have ahX:(tp MO τ d).cell? ⟨g8,10,none⟩=some (.slice y8.1 y8.2.1 y8.2.2):=hce 10 _ rfl;have hr:(tp MO τ d).heap[w8.heap.size]? = _:=aaC;have hp0:(tp MO τ d).cell? ⟨w8.heap.size,0,none⟩=some (.slice (some ⟨g8,0,none⟩) 1 c8):=cell_of_row _ _ _ _ _ _ hr;have hp1:(tp MO τ d).cell? ⟨w8.heap.size,1,none⟩=some (.int .i64 0):=cell_of_row _ _ _ _ _ _ hr;have hp2:(tp MO τ d).cell? ⟨w8.heap.size,2,none⟩=some (.int .i64 2048):=cell_of_row _ _ _ _ _ _ hr;have hbd:Bs (tp MO τ d) y8.1 y8.2.1 y8.2.2 [120,121,122]:=(P9.tp τ d).keeps.bs (OY hd8);have HB:=ah (fI.tp (fI.refl MO) τ d);generalize tp MO τ d=W at *
  generalize w8.heap.size=p8 at *
  clear aeZ hce hr aaC P9 afv hg2;unfold pv;have hcv:=XP hbd;go_wp2
  go_ret;exact⟨_,rfl,rfl,HB.out⟩
 .obtain⟨rfl,hb'⟩:=hq;rw[hpf];exact hn w' (aeE.seq hb')
end
end St
end
end Go.Proofs.YtdbgldieilgnmaaGreatDoor
