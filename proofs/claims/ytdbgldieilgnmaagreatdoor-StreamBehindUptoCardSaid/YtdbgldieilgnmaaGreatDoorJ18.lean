/- J18 -/
import Derived.Test.YtdbgldieilgnmaaGreatDoorJ17
set_option linter.unusedVariables false
set_option linter.unusedSimpArgs false
set_option maxHeartbeats 8000000
set_option maxRecDepth 100000
namespace Go.Proofs.YtdbgldieilgnmaaGreatDoor
open Go.Proofs.Tryz
open Go.Proofs.Tryz renaming prog → qp0
open Go.ChangeShapes Go.WideShapes Go.ChangeAt Go.RowKit
open Go renaming undef → au
section
open Go.Maps (Keyed)
namespace St
open Gr (aZ aD aN aO aX aG aS aU)
noncomputable def rE:Code:=Tryz.f75.body.getD .skip
noncomputable def AA:Code:=match rE with|.seq _ (.seq _ (.block _ (.loop (.block _ c))))=>c|_=>.skip
noncomputable def DN:List Code:=match AA with|.seq c2 (.seq c3 (.seq c5 (.seq c7 (.seq c8 (.seq c10 (.seq c12 _))))))=>[c2,c3,c5,c7,c8,c10,c12]|_=>[]
def fF(f:Nat->Value)(rb:Nat):Array Value:=#[f 0,f 1,.pointer (some ⟨rb,0,none⟩),f 3,f 4,f 5,f 6,f 7,f 8,f 9,f 10,f 11,f 12,f 13,f 14,f 15,f 16,f 17,f 18,f 19,f 20,f 21,f 22,f 23,f 24,f 25,f 26,f 27,f 28,f 29,f 30,f 31,f 32,f 33,f 34,f 35,f 36,f 37,f 38,f 39,f 40,f 41,f 42,f 43,f 44,f 45,f 46,f 47,f 48,f 49,f 50,f 51,f 52,f 53,f 54,f 55,f 56,f 57,f 58,f 59,f 60,f 61,f 62,f 63,f 64,f 65,f 66,f 67,f 68,f 69,f 70,f 71,f 72,f 73,f 74,f 75,f 76,f 77,f 78,f 79,f 80,f 81,f 82,f 83,f 84,f 85,f 86,f 87,f 88,f 89,f 90,f 91,f 92,f 93,f 94,f 95,f 96,f 97,f 98,f 99,f 100,f 101,f 102,f 103,f 104,f 105,f 106,f 107,f 108,f 109,f 110,f 111,f 112]
theorem nR(A:Array Value)(rb:Nat)(h:A.size=113)(h2:A.getD 2 au=.pointer (some ⟨rb,0,none⟩)):A=fF (fun i=>A.getD i au) rb:=by
 have e:A=((List.range 113).map (fun i=>A.getD i au)).toArray:=by
  apply TS
  .simp[h]
  .intro i hi1 hi2;simp[hi1]
 have e2:((List.range 113).map (fun i=>A.getD i au)).toArray=fF (fun i=>A.getD i au) rb:=by
  unfold fF;rw[<-h2];rfl
 exact e.trans e2
structure Bx(C:Cn)(rb:Nat)(w:World):Prop where
 row:w.heap[rb]? = some (.cells #[.pointer (some ⟨C.wb,0,none⟩)] 77)
theorem Bx.below{C:Cn}{rb:Nat}{w w':World}(h:Bx C rb w)(k:Below w.heap.size w w'):Bx C rb w':=⟨aU h.row k⟩
theorem Bx.cell{C:Cn}{rb:Nat}{w:World}(h:Bx C rb w):w.cell? ⟨rb,0,none⟩=some (.pointer (some ⟨C.wb,0,none⟩)):=aG h.row 0
section
variable {P:Program}{o:Oper}{a:Act}{w:World}
theorem Ci(ahQ:o.guard=none)(t:TypeId)(x lo hi:Operand)(ho:o.op=.slice t x (some lo) (some hi) none)(ht:P.underlying t=some (.slice (P.elem t)))(hs:∀ w,(sizeOf (P.elem t)).run P w=.ok 1 w){ad:Option Addr}{n c:Nat}(hx:a.eval x=.slice ad n c)(l h:Nat){li hi':Int}(hlo:a.eval lo=.int .i64 li)(hhi:a.eval hi=.int .i64 hi')(e1:li=l)(e2:hi'=h)(h1:l<=h)(h2:h<=c){v:Value}(hv:cutV ad c l h=v):(execOp a.eval o).run P w=.ok (.value v) w:=by
 subst e1 e2 hv;have hr:=run_slice_lh (P:=P) (w:=w) t ad n c ht .i64 .i64 (l:Int) (h:Int) (by omega) (by omega) (by omega);have hr2:=(run_sliceAt_slice w t _ _ _ _ ht).trans hr;simp only[hs,Result.andThen,Int.toNat_natCast] at hr2;simp[execOp,ho,hx,hlo,hhi,hr2,Result.andThen,cutV]
theorem X7(t:TypeId)(x:Operand)(ho:o.op=.sliceToArrayPointer t x){ad:Option Addr}{n c:Nat}(hx:a.eval x=.slice ad n c)(m:Nat)(e:TypeId)(ht:P.underlying t=some (.array m e))(hm:m<=n)(w:World):(execOp a.eval o).run P w=.ok (.value (.pointer ad)) w:=by
 have h:¬ n<m:=by omega
 simp[execOp,ho,hx,Instr.arrayAt,run_underlying ht,h,Result.andThen]
theorem Fa(t:TypeId)(x:Operand)(ho:o.op=.load t x){ad:Option Addr}{n c:Nat}{l:List UInt8}(hx:a.eval x=.pointer ad)(hb:Bs w ad n c l)(hn:0<n)(e:TypeId)(ht:P.underlying t=some (.array n e))(hi:(P.info? t).map (·.size)=some n):(execOp a.eval o).run P w=.ok (.value (.agg (aL l))) w:=by
 have hl:=hb.len;obtain⟨b,off,rfl,_⟩:=hb.at 0 hn;have hc:w.rangeAt b off (l.map jJ):=by
  intro j v hj;obtain⟨b',off',he,hc⟩:=hb.2.2.2.1.at j v hj;simp only[Ba,Addr.mk.injEq,and_true] at he;obtain⟨rfl,rfl⟩:=he;exact hc
 have hr:=run_loadVar_mid w b off t (l.map jJ) (.array n e) hc ht rfl (by rw[hi];simp[hl]);unfold execOp;simp only[ho,hx,Instr.loadAt,Instr.sureAddr,Sem.run_bind,Sem.run_pure,Result.andThen_ok,hr];rfl
end
theorem Oy{P:Program}{Q:Exit->Act->World->Prop}{x:Code}{N:Act->World->Prop}{a:Act}{w:World}(h:∀ K:Act->World->Prop,(∀ a w,N a w->K a w)->x.wp P (Exit.then K Q) a w):x.wp P (Exit.then N Q) a w:=h N fun _ _ h=>h
def Q1(C:Cn)(A:Ad)(o:Nat)(s:bW)(rb:Nat)(w:World)(e:Exit)(a:Act)(w':World):Prop :=a.defers=[]/\gL C w w'/\match e with
  | .panic ch=>∃ c,c≠0/\Plain.gH C.data C.lim o s=.stop c o/\ch=mK c/\Wk C A o s w'
  | .ret=>Plain.gH C.data C.lim o s=.stop 0 (o+1024)/\Wk C A (o+1024) s w'
  | .normal=>∃ (h:Hd)(gh:Nat),o+512<=C.dn/\Plain.hread (eH C.data o (o+512))=(h,0)/\Wk C A o s w'/\a.tmps.size=113/\a.tmps.getD 0 au=a.tmps.getD 0 au/\a.tmps.getD 2 au=.pointer (some ⟨rb,0,none⟩) /\
    a.tmps.getD 5 au=.pointer (some ⟨gh,0,none⟩)/\a.tmps.getD 7 au=.int .i64 h.size/\w'.heap[gh]? = some (.cells (dQ h) 74)/\w.heap.size<=gh
  | _=>False
theorem Sc(C:Cn)(hC:C.Ok)(A:Ad)(o:Nat)(s:bW)(rb:Nat)(f:Nat->Value)(w:World)(hw:Wk C A o s w)(hb:Bx C rb w):Sr.gB qp0 (Q1 C A o s rb w) DN {tmps:=fF f rb,defers:=[]} w:=by
 have hdn:=hC.dn;have hl:=hC.dat.len;have hcap:=hC.dat.cap;have hole:=hw.Zv;have hc3:w.cell? ⟨C.wb,3,none⟩=some (.int .i64 o):=hw.cell 3;have hc0:w.cell? ⟨C.wb,0,none⟩=some (.slice C.da C.dn C.dc):=hw.cell 0;have hcb:=hb.cell;have HW:=ah hw;have HB:=ah hb;clear hw hb;unfold fF;simp only[DN,AA,rE,Tryz.f75,Option.getD_some,Sr.gB];generalize hst:Plain.gH C.data C.lim o s=R;have HST:=ah hst;unfold Plain.gH at hst;rw[hl] at hst;clear hl;go_upto_region 2 with fail
 go_quiet (fail)
 have hwq:=HW.out.below (Below.drewN (Below.refl w.heap.size w) nq);have hbq:=HB.out.below (Below.drewN (Below.refl w.heap.size w) nq);have HBQ:=ah (Below.drewN (Below.refl w.heap.size w) nq);have HW1:=ah hwq;have HB1:=ah hbq;clear hwq hbq hc3 hc0 hcb;generalize w.drewN nq=w1 at *
 have hcb:w1.cell? ⟨rb,0,none⟩=some (.pointer (some ⟨C.wb,0,none⟩)):=HB1.out.cell;by_cases c1:C.dn-o=0
 .rw[if_pos c1] at hst;subst hst;have c1i:((C.dn:Int)-o==0)=true:=by rw[beq_iff_eq];omega
  go_wp2_with (go_at_call 112;refine(dF _ _ _).mono ?_;rintro e w5 ⟨rfl,rfl⟩)
  exact⟨rfl,gL.of HBQ.out,71,by decide,HST.out,rfl,HW1.out⟩
 .rw[if_neg c1] at hst;have c1i:((C.dn:Int)-o==0)=false:=by rw[beq_eq_false_iff_ne];omega
  by_cases c2:C.dn-o<512
  .rw[if_pos c2] at hst;subst hst;have c2i:(C.dn:Int)-o<512:=by omega
   go_wp2_with (go_at_call 112;refine(dF _ _ _).mono ?_;rintro e w5 ⟨rfl,rfl⟩)
   exact⟨rfl,gL.of HBQ.out,70,by decide,HST.out,rfl,HW1.out⟩
  .rw[if_neg c2] at hst;have c2i:¬ (C.dn:Int)-o<512:=by omega
   have hlen:(eH C.data o (o+512)).length=512:=by rw[tQ _ _ _ (by rw[hC.dat.len];omega)];omega
   have Tf:=ah (fun (wr:World)(hb:Below w1.heap.size w1 wr)=>xk (hC.bs (HW1.out.below hb).bJ) o (o+512) (by omega) (by omega));obtain⟨a',e1,_⟩:=Tf.out w1 (Below.refl _ _);have e3:o+512-o=512:=by omega
   rw[e3] at e1;have UU:=ah e1;have UW:Hid (∀ wr,Below w1.heap.size w1 wr->Calls qp0 113 #[.agg (aL (eH C.data o (o+512)))] wr fun e w'=>e=.returned (Km (Plain.hread (eH C.data o (o+512))))/\Below wr.heap.size wr w'):=ah (fun wr hb=>R9 _ hlen wr C.ev (hC.er.below (HW1.out.below hb).bJ));have jZ:Hid (∀ wr,Below w1.heap.size w1 wr->wr.cell? ⟨rb,0,none⟩=some (.pointer (some ⟨C.wb,0,none⟩))/\wr.cell? ⟨C.wb,0,none⟩=some (.slice C.da C.dn C.dc)/\wr.cell? ⟨C.wb,3,none⟩=some (.int .i64 o)/\Bs wr a' 512 (C.dc-o) (eH C.data o (o+512))):=ah (fun wr hb=>by
    obtain⟨a2,e4,e5⟩:=Tf.out wr hb;rw[e3] at e4 e5;have e6:=UU.out.symm.trans e4;simp only[Value.slice.injEq,and_true] at e6;subst e6;exact⟨(HB1.out.below hb).cell,(HW1.out.below hb).cell 0,(HW1.out.below hb).cell 3,e5⟩)
   have HSB:=ah (show(qp0.info? 70).map (·.size)=some 512 by kernel_rfl);have HLN:=ah hlen;clear e1 e3 Tf hlen c1 c2;generalize hD:eH C.data o (o+512)=D at *
   have HDD:=ah hD;generalize hr:Plain.hread D=r at *
   have HRR:=ah hr;obtain⟨r1,r2⟩:=r;simp only at hst;unfold Km at UW;simp only at UW;clear hD hr hcb;go_upto_region 7 with fail
   refine Oy fun K hK=>?_
   go_cut [5,6] from 28 to 47 (fun v5 v6 wx=>∃ (gh:Nat),v5=.pointer (some ⟨gh,0,none⟩)/\v6=.int .i64 r2/\Hid (Below w1.heap.size w1 wx)/\Hid (w1.heap.size<=gh)/\Hid (wx.heap[gh]? = some (.cells (dQ r1) 74)))
   case first =>
    refine wp_region_held_drew (S:=fun w':World=>Below w1.heap.size w1 w') (by kernel_rfl) ((Below.refl _ _).drew) (fun hHeld=>?_);refine wpAnyH_take (i:=0) (oi:={dst:=some 29,op:=Op.load 77 (Operand.tmp 2),type:=77,pos:=_,after:=_,guard:=none}) (v:=(.pointer (some ⟨C.wb,0,none⟩))) rfl (by kernel_rfl) (by kernel_rfl) (by kernel_rfl) (fun _ _ _ h=>h) (Or.inl ⟨by rfl,?_⟩) (by assumption) ?_
    .intro wz hSw;obtain⟨s1,s2,s3,_⟩:=jZ.out wz hSw;go_simp
    (try simp only[Act.put,eu,dY,qzs,qzl])
    refine wpAnyH_take (i:=1) (oi:={dst:=some 30,op:=Op.nilCheck (Operand.tmp 29),type:=0,pos:=_,after:=_,guard:=none}) (v:=(.pointer (some ⟨C.wb,0,none⟩))) rfl (by kernel_rfl) (by kernel_rfl) (by kernel_rfl) (fun _ _ _ h=>h) (Or.inl ⟨by rfl,?_⟩) (by assumption) ?_
    .intro wz hSw;obtain⟨s1,s2,s3,_⟩:=jZ.out wz hSw;go_simp
    (try simp only[Act.put,eu,dY,qzs,qzl])
    refine wpAnyH_take (i:=2) (oi:={dst:=some 31,op:=Op.fieldAddr 85 (Operand.tmp 30) 0,type:=0,pos:=_,after:=_,guard:=none}) (v:=(.pointer (some ⟨C.wb,0,none⟩))) rfl (by kernel_rfl) (by kernel_rfl) (by kernel_rfl) (fun _ _ _ h=>h) (Or.inl ⟨by rfl,?_⟩) (by assumption) ?_
    .intro wz hSw;obtain⟨s1,s2,s3,_⟩:=jZ.out wz hSw;go_simp
    (try simp only[Act.put,eu,dY,qzs,qzl])
    refine wpAnyH_take (i:=3) (oi:={dst:=some 32,op:=Op.load 22 (Operand.tmp 31),type:=22,pos:=_,after:=_,guard:=none}) (v:=(.slice C.da C.dn C.dc)) rfl (by kernel_rfl) (by kernel_rfl) (by kernel_rfl) (fun _ _ _ h=>h) (Or.inl ⟨by rfl,?_⟩) (by assumption) ?_
    .intro wz hSw;obtain⟨s1,s2,s3,_⟩:=jZ.out wz hSw;go_simp
    (try simp only[Act.put,eu,dY,qzs,qzl])
    refine wpAnyH_take (i:=4) (oi:={dst:=some 33,op:=Op.load 77 (Operand.tmp 2),type:=77,pos:=_,after:=_,guard:=none}) (v:=(.pointer (some ⟨C.wb,0,none⟩))) rfl (by kernel_rfl) (by kernel_rfl) (by kernel_rfl) (fun _ _ _ h=>h) (Or.inl ⟨by rfl,?_⟩) (by assumption) ?_
    .intro wz hSw;obtain⟨s1,s2,s3,_⟩:=jZ.out wz hSw;go_simp
    (try simp only[Act.put,eu,dY,qzs,qzl])
    refine wpAnyH_take (i:=5) (oi:={dst:=some 34,op:=Op.nilCheck (Operand.tmp 33),type:=0,pos:=_,after:=_,guard:=none}) (v:=(.pointer (some ⟨C.wb,0,none⟩))) rfl (by kernel_rfl) (by kernel_rfl) (by kernel_rfl) (fun _ _ _ h=>h) (Or.inl ⟨by rfl,?_⟩) (by assumption) ?_
    .intro wz hSw;obtain⟨s1,s2,s3,_⟩:=jZ.out wz hSw;go_simp
    (try simp only[Act.put,eu,dY,qzs,qzl])
    refine wpAnyH_take (i:=6) (oi:={dst:=some 35,op:=Op.fieldAddr 85 (Operand.tmp 34) 2,type:=0,pos:=_,after:=_,guard:=none}) (v:=(.pointer (some ⟨C.wb,3,none⟩))) rfl (by kernel_rfl) (by kernel_rfl) (by kernel_rfl) (fun _ _ _ h=>h) (Or.inl ⟨by rfl,?_⟩) (by assumption) ?_
    .intro wz hSw;obtain⟨s1,s2,s3,_⟩:=jZ.out wz hSw;go_simp
    (try simp only[Act.put,eu,dY,qzs,qzl])
    refine wpAnyH_take (i:=7) (oi:={dst:=some 36,op:=Op.load 3 (Operand.tmp 35),type:=3,pos:=_,after:=_,guard:=none}) (v:=(.int .i64 o)) rfl (by kernel_rfl) (by kernel_rfl) (by kernel_rfl) (fun _ _ _ h=>h) (Or.inl ⟨by rfl,?_⟩) (by assumption) ?_
    .intro wz hSw;obtain⟨s1,s2,s3,_⟩:=jZ.out wz hSw;go_simp
    (try simp only[Act.put,eu,dY,qzs,qzl])
    refine wpAnyH_take (i:=8) (oi:={dst:=some 37,op:=Op.load 77 (Operand.tmp 2),type:=77,pos:=_,after:=_,guard:=none}) (v:=(.pointer (some ⟨C.wb,0,none⟩))) rfl (by kernel_rfl) (by kernel_rfl) (by kernel_rfl) (fun _ _ _ h=>h) (Or.inl ⟨by rfl,?_⟩) (by assumption) ?_
    .intro wz hSw;obtain⟨s1,s2,s3,_⟩:=jZ.out wz hSw;go_simp
    (try simp only[Act.put,eu,dY,qzs,qzl])
    refine wpAnyH_take (i:=9) (oi:={dst:=some 38,op:=Op.nilCheck (Operand.tmp 37),type:=0,pos:=_,after:=_,guard:=none}) (v:=(.pointer (some ⟨C.wb,0,none⟩))) rfl (by kernel_rfl) (by kernel_rfl) (by kernel_rfl) (fun _ _ _ h=>h) (Or.inl ⟨by rfl,?_⟩) (by assumption) ?_
    .intro wz hSw;obtain⟨s1,s2,s3,_⟩:=jZ.out wz hSw;go_simp
    (try simp only[Act.put,eu,dY,qzs,qzl])
    refine wpAnyH_take (i:=10) (oi:={dst:=some 39,op:=Op.fieldAddr 85 (Operand.tmp 38) 2,type:=0,pos:=_,after:=_,guard:=none}) (v:=(.pointer (some ⟨C.wb,3,none⟩))) rfl (by kernel_rfl) (by kernel_rfl) (by kernel_rfl) (fun _ _ _ h=>h) (Or.inl ⟨by rfl,?_⟩) (by assumption) ?_
    .intro wz hSw;obtain⟨s1,s2,s3,_⟩:=jZ.out wz hSw;go_simp
    (try simp only[Act.put,eu,dY,qzs,qzl])
    refine wpAnyH_take (i:=11) (oi:={dst:=some 40,op:=Op.load 3 (Operand.tmp 39),type:=3,pos:=_,after:=_,guard:=none}) (v:=(.int .i64 o)) rfl (by kernel_rfl) (by kernel_rfl) (by kernel_rfl) (fun _ _ _ h=>h) (Or.inl ⟨by rfl,?_⟩) (by assumption) ?_
    .intro wz hSw;obtain⟨s1,s2,s3,_⟩:=jZ.out wz hSw;go_simp
    (try simp only[Act.put,eu,dY,qzs,qzl])
    refine wpAnyH_take (i:=12) (oi:={dst:=some 41,op:=Op.binOp BinOp.add 3 (Operand.tmp 40) (Operand.const (Value.int IntKind.i64 512)) 3,type:=3,pos:=_,after:=_,guard:=none}) (v:=(.int .i64 ((o:Int)+512))) rfl (by kernel_rfl) (by kernel_rfl) (by kernel_rfl) (fun _ _ _ h=>h) (Or.inl ⟨by rfl,?_⟩) (by assumption) ?_
    .intro wz hSw;obtain⟨s1,s2,s3,_⟩:=jZ.out wz hSw;go_simp;rw[IntKind.wrap_i64];omega
    (try simp only[Act.put,eu,dY,qzs,qzl])
    refine wpAnyH_take (i:=13) (oi:={dst:=some 42,op:=Op.slice 22 (Operand.tmp 32) (some (Operand.tmp 36)) (some (Operand.tmp 41)) none,type:=22,pos:=_,after:=_,guard:=none}) (v:=(.slice a' 512 (C.dc-o))) rfl (by kernel_rfl) (by kernel_rfl) (by kernel_rfl) (fun _ _ _ h=>h) (Or.inl ⟨by rfl,?_⟩) (by assumption) ?_
    .intro wz hSw;exact Ci rfl 22 (.tmp 32) (.tmp 36) (.tmp 41) rfl underlying22 Ik rfl o (o+512) rfl rfl rfl (by omega) (by omega) (by omega) UU.out
    (try simp only[Act.put,eu,dY,qzs,qzl])
    refine wpAnyH_take (i:=14) (oi:={dst:=some 43,op:=Op.sliceToArrayPointer 70 (Operand.tmp 42),type:=0,pos:=_,after:=_,guard:=none}) (v:=(.pointer a')) rfl (by kernel_rfl) (by kernel_rfl) (by kernel_rfl) (fun _ _ _ h=>h) (Or.inl ⟨by rfl,?_⟩) (by assumption) ?_
    .intro wz hSw;exact X7 70 (.tmp 42) rfl rfl 512 5 underlying70 (by decide) wz
    (try simp only[Act.put,eu,dY,qzs,qzl])
    refine wpAnyH_take (i:=15) (oi:={dst:=some 44,op:=Op.load 70 (Operand.tmp 43),type:=70,pos:=_,after:=_,guard:=none}) (v:=(.agg (aL D))) rfl (by kernel_rfl) (by kernel_rfl) (by kernel_rfl) (fun _ _ _ h=>h) (Or.inl ⟨by rfl,?_⟩) (by assumption) ?_
    .intro wz hSw;exact Fa 70 (.tmp 43) rfl rfl (jZ.out wz hSw).2.2.2 (by decide) 5 underlying70 HSB.out
    (try simp only[Act.put,eu,dY,qzs,qzl])
    refine wpAnyH_ready (rs:=[16,20]) (by kernel_rfl) (by simp) ?_;refine AllReadyH.cons (o:={dst:=some 45,op:=Op.call {callee:=Callee.value (Operand.func 113),args:=#[Operand.tmp 44],argTypes:=#[70]},type:=88,pos:=_,after:=_,guard:=none}) rfl (fun K hK=>?_) ?_
    .skip
     go_simp
     (go_at_call 113;(refine(UW.out w1.drew ((Below.refl w1.heap.size w1).drew)).mono ?_);rintro e7 w7 ⟨rfl,mq⟩)
     have hd7:Below w1.heap.size w1 w7:=Below.seq ((Below.refl w1.heap.size w1).drew) mq
     (try go_wp2_with fail)
     refine hK.out _ _ hd7 (fun hH5=>?_);clear hK K
     (try simp only[Act.put,eu,dY,qzs,qzl])
     refine wpAnyH_take (i:=17) (oi:={dst:=some 28,op:=Op.move (Operand.tmp 45),type:=88,pos:=_,after:=_,guard:=none}) (v:=(.tuple #[.agg (dQ r1),.int .i64 r2])) rfl (by kernel_rfl) (by kernel_rfl) (by kernel_rfl) (fun _ _ _ h=>h) (Or.inl ⟨by rfl,?_⟩) (by assumption) ?_
     .intro wz hSw;obtain⟨s1,s2,s3,_⟩:=jZ.out wz hSw;go_simp
     (try simp only[Act.put,eu,dY,qzs,qzl])
     refine wpAnyH_take (i:=18) (oi:={dst:=some 46,op:=Op.extract (Operand.tmp 28) 0,type:=74,pos:=_,after:=_,guard:=none}) (v:=(.agg (dQ r1))) rfl (by kernel_rfl) (by kernel_rfl) (by kernel_rfl) (fun _ _ _ h=>h) (Or.inl ⟨by rfl,?_⟩) (by assumption) ?_
     .intro wz hSw;obtain⟨s1,s2,s3,_⟩:=jZ.out wz hSw;go_simp
     (try simp only[Act.put,eu,dY,qzs,qzl])
     refine wpAnyH_take (i:=19) (oi:={dst:=some 47,op:=Op.extract (Operand.tmp 28) 1,type:=28,pos:=_,after:=_,guard:=none}) (v:=(.int .i64 r2)) rfl (by kernel_rfl) (by kernel_rfl) (by kernel_rfl) (fun _ _ _ h=>h) (Or.inl ⟨by rfl,?_⟩) (by assumption) ?_
     .intro wz hSw;obtain⟨s1,s2,s3,_⟩:=jZ.out wz hSw;go_simp
     (try simp only[Act.put,eu,dY,qzs,qzl])
     refine wpAnyH_ready (rs:=[20]) (by kernel_rfl) (by simp) ?_;refine AllReadyH.cons (o:={dst:=some 5,op:=Op.alloc 74,type:=0,pos:=_,after:=_,guard:=none}) rfl (fun K hK=>?_) AllReadyH.nil;go_simp;have OV:(w7.alloc (.cells (dQ Hd.zero) 74)).heap[w7.heap.size]? = some (.cells (dQ Hd.zero) 74):=JL;have hd8:Below w1.heap.size w1 (w7.alloc (.cells (dQ Hd.zero) 74)):=hd7.alloc hd7.size _;refine hK.out _ _ hd8 (fun hH1=>?_);clear hK K
     (try simp only[Act.put,eu,dY,qzs,qzl])
     refine wpAnyH_ready (rs:=[21]) (by kernel_rfl) (by simp) ?_;refine AllReadyH.cons (o:={dst:=none,op:=Op.store 74 (Operand.tmp 5) (Operand.tmp 46),type:=0,pos:=_,after:=_,guard:=none}) rfl (fun K hK=>?_) AllReadyH.nil;refine jS rfl 74 (.tmp 5) (.tmp 46) rfl w7.heap.size (by simp[Act.eval,Act.put]) (dQ r1) (by simp[Act.eval,Act.put]) (dQ Hd.zero) 74 OV rfl (mo r1) (jP r1) ?_;have X3:Below w1.heap.size w1 (World.setRow (w7.alloc (.cells (dQ Hd.zero) 74)) w7.heap.size (dQ r1)):=Below.setRow hd8 hd7.size _;refine hK.out _ _ X3 (fun hH8=>?_);clear hK K
     (try simp only[Act.put,eu,dY,qzs,qzl])
     refine wpAnyH_take (i:=22) (oi:={dst:=some 6,op:=Op.assign (Operand.tmp 47),type:=28,pos:=_,after:=_,guard:=none}) (v:=(.int .i64 r2)) rfl (by kernel_rfl) (by kernel_rfl) (by kernel_rfl) (fun _ _ _ h=>h) (Or.inl ⟨by rfl,?_⟩) (by assumption) ?_
     .intro wz hSw;obtain⟨s1,s2,s3,_⟩:=jZ.out wz hSw;go_simp
     (try simp only[Act.put,eu,dY,qzs,qzl])
     refine wpAnyH_done (by kernel_rfl) ?_ _;go_wp2_with fail
     go_meet;exact⟨w7.heap.size,rfl,rfl,ah X3,ah hd7.size,ah (setRow_heap _ _ _ _ _ _ OV)⟩
    refine AllReadyH.cons (o:={dst:=some 5,op:=Op.alloc 74,type:=0,pos:=_,after:=_,guard:=none}) rfl (fun K hK=>?_) AllReadyH.nil;go_simp;refine hK.out _ _ (((Below.refl w1.heap.size w1).drew).alloc (aY _) _) (fun hH1=>?_);clear hK K
    (try simp only[Act.put,eu,dY,qzs,qzl])
    refine wpAnyH_ready (rs:=[16]) (by kernel_rfl) (by simp) ?_;refine AllReadyH.cons (o:={dst:=some 45,op:=Op.call {callee:=Callee.value (Operand.func 113),args:=#[Operand.tmp 44],argTypes:=#[70]},type:=88,pos:=_,after:=_,guard:=none}) rfl (fun K hK=>?_) AllReadyH.nil;go_simp
    (go_at_call 113;(refine(UW.out (w1.drew.alloc _) (((Below.refl w1.heap.size w1).drew).alloc (aY _) _)).mono ?_);rintro e7 w7 ⟨rfl,mq⟩)
    have hd7:Below w1.heap.size w1 w7:=Below.seq (((Below.refl w1.heap.size w1).drew).alloc (aY _) _) mq;have OV:w7.heap[w1.heap.size]? = some (.cells (dQ Hd.zero) 74):=by rw[mq.block _ (by simp)];exact JL
    (try go_wp2_with fail)
    refine hK.out _ _ hd7 (fun hH5=>?_);clear hK K
    (try simp only[Act.put,eu,dY,qzs,qzl])
    refine wpAnyH_take (i:=17) (oi:={dst:=some 28,op:=Op.move (Operand.tmp 45),type:=88,pos:=_,after:=_,guard:=none}) (v:=(.tuple #[.agg (dQ r1),.int .i64 r2])) rfl (by kernel_rfl) (by kernel_rfl) (by kernel_rfl) (fun _ _ _ h=>h) (Or.inl ⟨by rfl,?_⟩) (by assumption) ?_
    .intro wz hSw;obtain⟨s1,s2,s3,_⟩:=jZ.out wz hSw;go_simp
    (try simp only[Act.put,eu,dY,qzs,qzl])
    refine wpAnyH_take (i:=18) (oi:={dst:=some 46,op:=Op.extract (Operand.tmp 28) 0,type:=74,pos:=_,after:=_,guard:=none}) (v:=(.agg (dQ r1))) rfl (by kernel_rfl) (by kernel_rfl) (by kernel_rfl) (fun _ _ _ h=>h) (Or.inl ⟨by rfl,?_⟩) (by assumption) ?_
    .intro wz hSw;obtain⟨s1,s2,s3,_⟩:=jZ.out wz hSw;go_simp
    (try simp only[Act.put,eu,dY,qzs,qzl])
    refine wpAnyH_take (i:=19) (oi:={dst:=some 47,op:=Op.extract (Operand.tmp 28) 1,type:=28,pos:=_,after:=_,guard:=none}) (v:=(.int .i64 r2)) rfl (by kernel_rfl) (by kernel_rfl) (by kernel_rfl) (fun _ _ _ h=>h) (Or.inl ⟨by rfl,?_⟩) (by assumption) ?_
    .intro wz hSw;obtain⟨s1,s2,s3,_⟩:=jZ.out wz hSw;go_simp
    (try simp only[Act.put,eu,dY,qzs,qzl])
    refine wpAnyH_ready (rs:=[21]) (by kernel_rfl) (by simp) ?_;refine AllReadyH.cons (o:={dst:=none,op:=Op.store 74 (Operand.tmp 5) (Operand.tmp 46),type:=0,pos:=_,after:=_,guard:=none}) rfl (fun K hK=>?_) AllReadyH.nil;refine jS rfl 74 (.tmp 5) (.tmp 46) rfl w1.heap.size (by simp[Act.eval,Act.put]) (dQ r1) (by simp[Act.eval,Act.put]) (dQ Hd.zero) 74 OV rfl (mo r1) (jP r1) ?_;have X3:Below w1.heap.size w1 (World.setRow w7 w1.heap.size (dQ r1)):=Below.setRow hd7 (aY _) _;refine hK.out _ _ X3 (fun hH8=>?_);clear hK K
    (try simp only[Act.put,eu,dY,qzs,qzl])
    refine wpAnyH_take (i:=22) (oi:={dst:=some 6,op:=Op.assign (Operand.tmp 47),type:=28,pos:=_,after:=_,guard:=none}) (v:=(.int .i64 r2)) rfl (by kernel_rfl) (by kernel_rfl) (by kernel_rfl) (fun _ _ _ h=>h) (Or.inl ⟨by rfl,?_⟩) (by assumption) ?_
    .intro wz hSw;obtain⟨s1,s2,s3,_⟩:=jZ.out wz hSw;go_simp
    (try simp only[Act.put,eu,dY,qzs,qzl])
    refine wpAnyH_done (by kernel_rfl) ?_ _;go_wp2_with fail
    go_meet;exact⟨w1.heap.size,rfl,rfl,ah X3,ah (aY _),ah (setRow_heap _ _ _ _ _ _ OV)⟩
   case rest =>
    obtain⟨gh,rfl,rfl,Xr,agj,HGH⟩:=hcut;have UO:=ah (HW1.out.below Xr.out);have HBc:=ah (HB1.out.below Xr.out);have HCH:=ah ((gL.of HBQ.out).trans (gL.of (C:=C) Xr.out));have hcb:wc.cell? ⟨rb,0,none⟩=some (.pointer (some ⟨C.wb,0,none⟩)):=HBc.out.cell;have ab9:o+512<=C.dn:=by omega
    have hgw:w.heap.size<=gh:=tT HBQ.out.size agj.out;clear jZ UW;by_cases U1:r2=40
    .rw[if_pos U1] at hst;subst hst;have afd:(r2==40)=true:=by rw[U1];rfl
     have U0:=ah (N8 C hC A o s wc UO.out ab9);clear U1;by_cases hf0:(Plain.finish C.data o s).1=0
     .have hf2:(Plain.finish C.data o s).2=o+1024:=by
       revert hf0;unfold Plain.finish;split
       .intro h;exact absurd h (show ¬ (77:Int)=0 by decide)
       .split
        .intro h;exact absurd h (show ¬ (71:Int)=0 by decide)
        .split
         .intro h;exact absurd h (show ¬ (72:Int)=0 by decide)
         .intro _;rfl
      have aea:Hid (Calls qp0 114 #[.pointer (some ⟨C.wb,0,none⟩)] wc fun e w'=>e=.returned (.tuple #[])/\Wk C A (o+1024) s w'/\gL C wc w'):=ah (U0.out.mono fun e w' h=>by
       rcases h.1 with⟨_,h2,h3⟩|⟨h1,_⟩
       .exact⟨h2,h3,h.2⟩
       .exact absurd hf0 h1)
      have adB:Hid (Plain.gH C.data C.lim o s=.stop 0 (o+1024)):=ah (by rw[HST.out,hf0,hf2]);clear U0 hf0 hf2;go_wp2_with (go_at_call 114;refine(aea.out).mono ?_;rintro e w5 ⟨rfl,h3,h4⟩;have qZ:=ah h3;have Wv:=ah h4;clear h3 h4)
      exact⟨rfl,HCH.out.trans Wv.out,adB.out,qZ.out⟩
     .have hf2:(Plain.finish C.data o s).2=o:=by
       revert hf0;unfold Plain.finish;split
       .intro _;rfl
       .split
        .intro _;rfl
        .split
         .intro _;rfl
         .intro h;exact absurd rfl h
      have aea:Hid (Calls qp0 114 #[.pointer (some ⟨C.wb,0,none⟩)] wc fun e w'=>e=.panicked (mK (Plain.finish C.data o s).1)/\Wk C A o s w'/\gL C wc w'):=ah (U0.out.mono fun e w' h=>by
       rcases h.1 with⟨h1,_⟩|⟨_,h2,h3⟩
       .exact absurd h1 hf0
       .exact⟨h2,h3,h.2⟩)
      have adB:Hid (Plain.gH C.data C.lim o s=.stop (Plain.finish C.data o s).1 o):=ah (by rw[HST.out,hf2]);have HF0:=ah hf0;generalize (Plain.finish C.data o s).1=fc at *
      clear U0 hf0 hf2;go_wp2_with (go_at_call 114;refine(aea.out).mono ?_;rintro e w5 ⟨rfl,h3,h4⟩;have qZ:=ah h3;have Wv:=ah h4;clear h3 h4)
      exact⟨rfl,HCH.out.trans Wv.out,fc,HF0.out,adB.out,rfl,qZ.out⟩
    .rw[if_neg U1] at hst;have afd:(r2==40)=false:=by rw[beq_eq_false_iff_ne];exact U1
     by_cases h0:r2=0
     .subst h0;have hc5:wc.cell? ⟨gh,5,none⟩=some (.int .i64 r1.size):=by rw[aG HGH.out];rfl
      clear afd U1;go_wp2
      exact⟨rfl,HCH.out,r1,gh,ab9,by rw[HDD.out];exact HRR.out,UO.out,rfl,rfl,rfl,rfl,rfl,HGH.out,hgw⟩
     .rw[if_pos h0] at hst;subst hst;have h0b:(r2 != 0)=true:=by rw[bne_iff_ne];exact h0
      have H0:=ah h0;clear U1 h0;go_wp2_with (go_at_call 112;refine(dF _ _ _).mono ?_;rintro e w5 ⟨rfl,rfl⟩)
      exact⟨rfl,HCH.out,r2,H0.out,HST.out,rfl,UO.out⟩
end St
end
section
open Go.Maps (Keyed)
namespace St
open Gr (aZ aD aN aO aX aG aS aU)
noncomputable def yV:Code:=match AA with|.seq _ (.seq _ (.seq _ (.seq _ (.seq _ (.seq _ (.seq _ x))))))=>x|_=>.skip
noncomputable def c20:Code:=match yV with|.seq _ c=>c|_=>.skip
noncomputable def Di:Code:=match yV with|.seq (.block _ c) _=>c|_=>.skip
noncomputable def c14:Code:=match Di with|.seq c _=>c|_=>.skip
noncomputable def c15:Code:=match Di with|.seq _ (.cond _ c _)=>c|_=>.skip
noncomputable def Cz:Code:=match Di with|.seq _ (.cond _ _ c)=>c|_=>.skip
noncomputable def c16:Code:=match Cz with|.seq c _=>c|_=>.skip
noncomputable def runN:Code:=match Cz with|.seq _ (.cond _ c _)=>c|_=>.skip
noncomputable def c13:Code:=match Cz with|.seq _ (.cond _ _ c)=>c|_=>.skip
noncomputable def c17:Code:=match runN with|.seq c _=>c|_=>.skip
noncomputable def c18:Code:=match runN with|.seq _ (.seq c _)=>c|_=>.skip
noncomputable def runM:Code:=match runN with|.seq _ (.seq _ c)=>c|_=>.skip
structure Fm(rb:Nat)(a:Act):Prop where
 defers:a.defers=[]
 size:a.tmps.size=113
 box:a.tmps.getD 2 au=.pointer (some ⟨rb,0,none⟩)
def Q14(rb:Nat)(f:Nat->Value)(t:Nat)(x:Bool)(w:World)(e:Exit)(a:Act)(w':World):Prop :=e=.normal/\Fm rb a/\a.tmps.getD 5 au=f 5/\a.tmps.getD 7 au=f 7/\a.tmps.getD t au=.bool x/\w'=w
def Q13(w:World)(e:Exit)(a:Act)(w':World):Prop:=e=.panic (mK 73)/\w'=w
def Tj(C:Cn)(A:Ad)(o:Nat)(s:bW)(h:Hd)(rb:Nat)(f:Nat->Value)(w:World)(e:Exit)(a:Act)(w':World):Prop :=gL C w w'/\match Plain.extend C.data C.lim (o+512) h s with
  | .error c=>e=.panic (mK c)/\Wk C A o s w'
  | .ok s'=>e=.normal/\Fm rb a/\a.tmps.getD 7 au=f 7/\∃ A',Wk C A' o s' w'
theorem Tj.err{C:Cn}{A:Ad}{o:Nat}{s:bW}{h:Hd}{rb:Nat}{f:Nat->Value}{w w':World}{a:Act}{c:Int}(hx:Plain.extend C.data C.lim (o+512) h s=.error c)(h1:gL C w w')(h2:Wk C A o s w'):Tj C A o s h rb f w (.panic (mK c)) a w':=by
 unfold Tj;rw[hx];exact⟨h1,rfl,h2⟩
theorem Tj.ok{C:Cn}{A A':Ad}{o:Nat}{s s':bW}{h:Hd}{rb:Nat}{f:Nat->Value}{w w':World}{a:Act}(hx:Plain.extend C.data C.lim (o+512) h s=.ok s')(h1:gL C w w')(h2:Wk C A' o s' w')(h3:Fm rb a)(h4:a.tmps.getD 7 au=f 7):Tj C A o s h rb f w .normal a w':=by
 unfold Tj;rw[hx];exact⟨h1,rfl,h3,h4,_,h2⟩
theorem Qz(ty:UInt8)(k:Nat)(hk:k<256)(h:ty≠UInt8.ofNat k):(((ty.toNat:Nat):Int)==(k:Int))=false:=by
 rw[beq_eq_false_iff_ne];intro e;apply h;apply VL.1;have:(UInt8.ofNat k).toNat=k:=by simp[qbR];omega
 omega
theorem aee(rb gh:Nat)(h:Hd)(f:Nat->Value)(w:World)(h5:f 5=.pointer (some ⟨gh,0,none⟩))(hr:w.heap[gh]? = some (.cells (dQ h) 74)):Sr.gB qp0 (Q14 rb f 61 (Plain.lH h.ty) w) [c14] {tmps:=fF f rb,defers:=[]} w:=by
 have UN:w.cell? ⟨gh,7,none⟩=some (.int .u8 (h.ty.toNat:Int)):=by rw[aG hr];rfl
 have HR:=ah hr;clear hr;unfold fF;rw[h5];simp only[c14,Di,yV,AA,rE,Tryz.f75,Option.getD_some,Sr.gB];by_cases e1:h.ty=120
 .have b1:(((h.ty.toNat:Nat):Int)==120)=true:=by rw[e1];rfl
  have hx:Plain.lH h.ty=true:=by rw[e1];rfl
  rw[hx];clear e1 hx HR;go_wp2
  exact⟨rfl,⟨rfl,rfl,rfl⟩,h5.symm,rfl,rfl,rfl⟩
 .have b1:(((h.ty.toNat:Nat):Int)==120)=false:=Qz h.ty 120 (by omega) e1;by_cases e2:h.ty=103
  .have b2:(((h.ty.toNat:Nat):Int)==103)=true:=by rw[e2];rfl
   have hx:Plain.lH h.ty=true:=by rw[e2];rfl
   rw[hx];clear e1 e2 hx HR;go_wp2
   exact⟨rfl,⟨rfl,rfl,rfl⟩,h5.symm,rfl,rfl,rfl⟩
  .have b2:(((h.ty.toNat:Nat):Int)==103)=false:=Qz h.ty 103 (by omega) e2;by_cases e3:h.ty=76
   .have b3:(((h.ty.toNat:Nat):Int)==76)=true:=by rw[e3];rfl
    have hx:Plain.lH h.ty=true:=by rw[e3];rfl
    rw[hx];clear e1 e2 e3 hx HR;go_wp2
    exact⟨rfl,⟨rfl,rfl,rfl⟩,h5.symm,rfl,rfl,rfl⟩
   .have b3:(((h.ty.toNat:Nat):Int)==76)=false:=Qz h.ty 76 (by omega) e3;by_cases e4:h.ty=75
    .have b4:(((h.ty.toNat:Nat):Int)==75)=true:=by rw[e4];rfl
     have hx:Plain.lH h.ty=true:=by rw[e4];rfl
     rw[hx];clear e1 e2 e3 e4 hx HR;go_wp2
     exact⟨rfl,⟨rfl,rfl,rfl⟩,h5.symm,rfl,rfl,rfl⟩
    .have b4:(((h.ty.toNat:Nat):Int)==75)=false:=Qz h.ty 75 (by omega) e4;have hx:Plain.lH h.ty=false:=by unfold Plain.lH;simp[e1,e2,e3,e4]
     rw[hx];clear e1 e2 e3 e4 hx HR;go_wp2
     exact⟨rfl,⟨rfl,rfl,rfl⟩,h5.symm,rfl,rfl,rfl⟩
theorem acZ(rb gh:Nat)(h:Hd)(f:Nat->Value)(w:World)(h5:f 5=.pointer (some ⟨gh,0,none⟩))(hr:w.heap[gh]? = some (.cells (dQ h) 74)):Sr.gB qp0 (Q14 rb f 83 (decide (48<=h.ty/\h.ty<=54)) w) [c16] {tmps:=fF f rb,defers:=[]} w:=by
 have UN:w.cell? ⟨gh,7,none⟩=some (.int .u8 (h.ty.toNat:Int)):=by rw[aG hr];rfl
 have HR:=ah hr;clear hr;unfold fF;rw[h5];simp only[c16,Cz,Di,yV,AA,rE,Tryz.f75,Option.getD_some,Sr.gB];by_cases e1:48<=h.ty
 .have n1:48<=h.ty.toNat:=e1;have b1:decide ((48:Int)<=((h.ty.toNat:Nat):Int))=true:=decide_eq_true (by omega);have b1':(48:Int)<=((h.ty.toNat:Nat):Int):=by omega
  by_cases e2:h.ty<=54
  .have n2:h.ty.toNat<=54:=e2;have b2':((h.ty.toNat:Nat):Int)<=54:=by omega
   have hx:decide (48<=h.ty/\h.ty<=54)=true:=decide_eq_true ⟨e1,e2⟩;rw[hx];clear e1 e2 hx HR n1 n2;go_wp2
   exact⟨rfl,⟨rfl,rfl,rfl⟩,h5.symm,rfl,rfl,rfl⟩
  .have n2:¬ h.ty.toNat<=54:=e2;have b2':¬ ((h.ty.toNat:Nat):Int)<=54:=by omega
   have hx:decide (48<=h.ty/\h.ty<=54)=false:=decide_eq_false fun x=>e2 x.2
   rw[hx];clear e1 e2 hx HR n1 n2;go_wp2
   exact⟨rfl,⟨rfl,rfl,rfl⟩,h5.symm,rfl,rfl,rfl⟩
 .have n1:¬ 48<=h.ty.toNat:=e1;have b1':¬ (48:Int)<=((h.ty.toNat:Nat):Int):=by omega
  have hx:decide (48<=h.ty/\h.ty<=54)=false:=decide_eq_false fun x=>e1 x.1
  rw[hx];clear e1 hx HR n1;go_wp2
  exact⟨rfl,⟨rfl,rfl,rfl⟩,h5.symm,rfl,rfl,rfl⟩
theorem acS(C:Cn)(rb:Nat)(f:Nat->Value)(w:World)(hb:Bx C rb w):Sr.gB qp0 (Q13 w) [c13] {tmps:=fF f rb,defers:=[]} w:=by
 have hcb:=hb.cell;have HB:=ah hb;clear hb;unfold fF;simp only[c13,Cz,Di,yV,AA,rE,Tryz.f75,Option.getD_some,Sr.gB];go_wp2_with (go_at_call 112;refine(dF _ _ _).mono ?_;rintro e w5 ⟨rfl,rfl⟩)
 exact⟨rfl,rfl⟩
theorem acM(C:Cn)(hC:C.Ok)(A:Ad)(o:Nat)(s:bW)(rb gh:Nat)(h:Hd)(f:Nat->Value)(w:World)(hw:Wk C A o s w)(hb:Bx C rb w)(ho:o+512<=C.dn)(hs0:0<=h.size)(hs1:h.size<=9223372036854775807)(hty:Plain.lH h.ty=true)(h5:f 5=.pointer (some ⟨gh,0,none⟩))(hr:w.heap[gh]? = some (.cells (dQ h) 74)):Sr.gB qp0 (Tj C A o s h rb f w) [c15] {tmps:=fF f rb,defers:=[]} w:=by
 have hcb:=hb.cell;have HB:=ah hb;have HE:=ah (Nv C hC A o h s w hw ho hs0 hs1 hty);have HO:=ah (jP h);have HI:=ah (mo h);clear hb hw hs0 hs1 hty;unfold fF;rw[h5];simp only[c15,Di,yV,AA,rE,Tryz.f75,Option.getD_some,Sr.gB];have hload:=ah hr;unfold AL at HE
 cases hx:Plain.extend C.data C.lim (o+512) h s with
 | error c =>
  rw[hx] at HE;have HX:=ah hx;clear hx;go_wp2_with (first|(with_reducible refine wpList_load_row rfl _ _ rfl gh rfl 74 (dQ h) (0,0) _ hload.out underlying74 rfl HI.out ?_)|(go_at_call 115;refine(HE.out).mono ?_;rintro e w5 ⟨⟨rfl,h3⟩,h4⟩;have qZ:=ah h3;have Wv:=ah h4;clear h3 h4))
  exact Tj.err HX.out Wv.out qZ.out
 | ok s' =>
  rw[hx] at HE;have HX:=ah hx;clear hx;go_wp2_with (first|(with_reducible refine wpList_load_row rfl _ _ rfl gh rfl 74 (dQ h) (0,0) _ hload.out underlying74 rfl HI.out ?_)|(go_at_call 115;refine(HE.out).mono ?_;rintro e w5 ⟨⟨rfl,h3⟩,h4⟩;have qZ:=ah h3;have Wv:=ah h4;clear h3 h4))
  obtain⟨A',hA⟩:=qZ.out;exact Tj.ok HX.out Wv.out hA ⟨rfl,rfl,rfl⟩ rfl
def RY(C:Cn)(A:Ad)(o:Nat)(s:bW)(h:Hd)(rb:Nat)(f:Nat->Value)(w:World)(e:Exit)(a:Act)(w':World):Prop :=gL C w w'/\match Plain.entry C.data (o+512) h s with
  | .error c=>e=.panic (mK c)/\Wk C A o s w'
  | .ok (en,size)=>e=.normal/\Fm rb a/\a.tmps.getD 7 au=.int .i64 size/\∃ (A':Ad)(x:Option Addr×Nat×Nat)(eb:Nat),a.tmps.getD 8 au=.pointer (some ⟨eb,0,none⟩)/\w.heap.size<=eb/\w'.heap[eb]? = some (.cells (sS (en,x)) 42)/\Wk C A' o (Plain.clean s) w'/\iw w' C.w0.heap.size (en,x)
theorem RY.err{C:Cn}{A:Ad}{o:Nat}{s:bW}{h:Hd}{rb:Nat}{f:Nat->Value}{w w':World}{a:Act}{c:Int}(hx:Plain.entry C.data (o+512) h s=.error c)(h1:gL C w w')(h2:Wk C A o s w'):RY C A o s h rb f w (.panic (mK c)) a w':=by
 unfold RY;rw[hx];exact⟨h1,rfl,h2⟩
theorem RY.ok{C:Cn}{A A':Ad}{o:Nat}{s:bW}{h:Hd}{rb:Nat}{f:Nat->Value}{w w':World}{a:Act}{en:En}{size:Int}{x:Option Addr×Nat×Nat}{eb:Nat}(hx:Plain.entry C.data (o+512) h s=.ok (en,size))(h1:gL C w w')(h2:Wk C A' o (Plain.clean s) w')(h3:Fm rb a)(h4:a.tmps.getD 7 au=.int .i64 size)(h5:a.tmps.getD 8 au=.pointer (some ⟨eb,0,none⟩))(h6:w.heap.size<=eb)(h7:w'.heap[eb]? = some (.cells (sS (en,x)) 42))(h8:iw w' C.w0.heap.size (en,x)):RY C A o s h rb f w .normal a w':=by
 unfold RY;rw[hx];exact⟨h1,rfl,h3,h4,A',x,eb,h5,h6,h7,h2,h8⟩
theorem Bv(w:World):Below w.heap.size w (w.alloc (.cells fZ 42)):=(Below.refl _ _).alloc (aY _) _
theorem adr(C:Cn)(hC:C.Ok)(A:Ad)(o:Nat)(s:bW)(rb gh:Nat)(h:Hd)(f:Nat->Value)(w:World)(hw:Wk C A o s w)(hb:Bx C rb w)(ho:o+512<=C.dn)(hn:h.name.length<=140737488351232)(hs0:0<=h.size)(hs1:h.size<=9223372036854775807)(h5:f 5=.pointer (some ⟨gh,0,none⟩))(hr:w.heap[gh]? = some (.cells (dQ h) 74))(hwr:rb≠C.wb)(hmr:rb≠C.mb):Sr.gB qp0 (RY C A o s h rb f w) [c17,c18] {tmps:=fF f rb,defers:=[]} w:=by
 have hw1:=hw.below (Bv w);have hb1:=hb.below (Bv w);have hcb:=hb1.cell;have hrz:(w.alloc (.cells fZ 42)).heap[w.heap.size]? = some (.cells fZ 42):=JL;have HE:=ah (SS C hC A o h s _ hw1 ho hn hs0 hs1);have HCA:Hid (gL C w (w.alloc (.cells fZ 42))):=ah (gL.of (Bv w));have hload:=ah (aU hr (Bv w));have HI:=ah (mo h);have HRZ:=ah hrz;have HW:=ah hw1;have hbase:=hw.bJ.size;have hlt:w.heap.size<(w.alloc (.cells fZ 42)).heap.size:=(fT.1 hrz).1;have HZ:=ah (show(qp0.info? 42).bind (·.zero)=some (.agg fZ) by kernel_rfl);have hwb:w.heap.size≠C.wb:=fun e=>by have:=fT.1 hw.row;obtain⟨h1,_⟩:=this;omega
 have hmb:w.heap.size≠C.mb:=fun e=>by have:=hw.long.lt;omega
 clear hb hb1 hw hw1 hs0 hs1 hrz;unfold fF;rw[h5];simp only[c17,c18,runN,Cz,Di,yV,AA,rE,Tryz.f75,Option.getD_some,Sr.gB];unfold Tz at HE;go_upto_region 18 with(with_reducible refine bV rfl 42 rfl fZ HZ.out ?_)
 generalize w.alloc (.cells fZ 42)=w1 at *
 cases hx:Plain.entry C.data (o+512) h s with
 | error c =>
  rw[hx] at HE;have HX:=ah hx;clear hx;go_wp2_with (first|(with_reducible refine wpList_load_row rfl _ _ rfl gh rfl 74 (dQ h) (0,0) _ hload.out underlying74 rfl HI.out ?_)|(go_at_call 116;refine(HE.out).mono ?_;rintro e w5 ⟨⟨rfl,h3⟩,h4⟩;have qZ:=ah h3;have Wv:=ah h4;clear h3 h4))
  exact RY.err HX.out (HCA.out.trans Wv.out) qZ.out
 | ok es =>
  obtain⟨en,size⟩:=es;rw[hx] at HE;have HX:=ah hx;clear hx;have qh:=ah (fun x:Option Addr×Nat×Nat=>Ov.vD en x.1 x.2.1 x.2.2);have AP:=ah (fun x:Option Addr×Nat×Nat=>Ov.lq en x.1 x.2.1 x.2.2);go_wp2_with (first|(with_reducible refine wpList_load_row rfl _ _ rfl gh rfl 74 (dQ h) (0,0) _ hload.out underlying74 rfl HI.out ?_)|(go_at_call 116;refine(HE.out).mono ?_;rintro e w5 ⟨⟨A',x,rfl,h3,h3'⟩,h4⟩;have qZ:=ah h3;have HO5:=ah h3';have Wv:=ah h4;have EB:Hid (w5.heap[w.heap.size]? = some (.cells fZ 42)):=ah (by rw[h4.block _ hlt hwb hmb];exact HRZ.out);clear h3 h3' h4)|(refine wpList_store_row rfl 42 _ _ rfl w.heap.size rfl (sS (en,x)) rfl fZ 42 EB.out rfl (qh.out x) (AP.out x) ?_))
  have hrx:=Ip EB.out (sS (en,x));have hgx:=qD EB.out (sS (en,x));refine RY.ok HX.out ((HCA.out.trans Wv.out).grow hgx (.inr (.inr (aY _)))) (qZ.out.other EB.out (by decide) (by decide) hbase hgx) ⟨rfl,rfl,rfl⟩ rfl rfl (aY _) hrx (aX HO5.out hgx (Or.inr (aN HO5.out EB.out (by decide))))
def Q20(C:Cn)(A:Ad)(o':Nat)(s:bW)(rb:Nat)(w:World):Exit->Act->World->Prop
 | .normal,a,w'=>Fm rb a/\gL C w w'/\Wk C A o' s w'
 | _,_,_=>False
theorem adz(C:Cn)(hC:C.Ok)(A:Ad)(o:Nat)(s:bW)(rb:Nat)(size:Int)(f:Nat->Value)(w:World)(hw:Wk C A o s w)(hb:Bx C rb w)(h7:f 7=.int .i64 size)(hs:size<9223372036854775808)(hle:Plain.next o size<=C.dn)(h0:0<=Plain.span size):Sr.gB qp0 (Q20 C A (Plain.next o size) s rb w) [c20] {tmps:=fF f rb,defers:=[]} w:=by
 have hcb:=hb.cell;have hc3:w.cell? ⟨C.wb,3,none⟩=some (.int .i64 o):=hw.cell 3;have hf3:=aS hw.row 3;have HSP:=ah (fun wr=>KW size hs wr);have hdn:=hC.dn;have hE:(o:Int)+512*(1+Plain.span size)=(Plain.next o size:Nat):=by unfold Plain.next;omega
 have HE:=ah hE;have UM:Hid (IntKind.i64.wrap ((Plain.next o size:Nat):Int)=(Plain.next o size:Nat)):=ah (IntWalk.i64_in _ (by omega));have hW:=ah hw;have HB:=ah hb;have hsp1:Plain.span size<=274877906944:=by omega
 have hw1:IntKind.i64.wrap (1+Plain.span size)=1+Plain.span size:=IntWalk.i64_in _ (by omega);have hw2:IntKind.i64.wrap (512*(1+Plain.span size))=512*(1+Plain.span size):=IntWalk.i64_in _ (by omega);have hw3:IntKind.i64.wrap ((o:Int)+512*(1+Plain.span size))=(o:Int)+512*(1+Plain.span size):=IntWalk.i64_in _ (by omega);clear hw hb;unfold fF;rw[h7];simp only[c20,yV,AA,rE,Tryz.f75,Option.getD_some,Sr.gB];generalize Plain.span size=sp at *
 refine Oy fun K hK=>?_
 go_region_with (first|(go_at_call 117;refine(HSP.out _).mono ?_;rintro e w5 ⟨rfl,rfl⟩))
 all_goals (
      refine hK _ _ ?_;try rw[UM.out]
      refine⟨⟨rfl,rfl,rfl⟩,(gL.refl C w).grow (w2:=(w.setCell ⟨C.wb,3,none⟩ (.int .i64 ((Plain.next o size:Nat):Int))).drew) ⟨rfl,rfl,rfl,by simp[World.drew],fun i hi hne=>(aD w C.wb 3 _).block i hi hne⟩ (.inl rfl),?_⟩;exact(hW.out.afi hC (Plain.next o size) hle).below ((Below.refl _ _).drew))
end St
end
section
open Go.Conc
open Cc (tp)
namespace St
open Sr (GW WS qY Qt bT)
variable {ε:Nat×Nat}
def pv(b:Nat):Value:=.pointer (some ⟨b,0,none⟩)
def cB(lb qb:Nat):Value:=.func (.func 76) #[] #[pv lb,pv qb]
theorem jR{P:Program}{a:Act}{o:Oper}{x:Operand}{t:TypeId}{ad:Addr}{v:Value}{w:World}(hop:o.op=.load t x)(hx:a.eval x=.pointer (some ad))(ht:∃ U,P.underlying t=some U/\(match U with|.struct _|.array _ _=>False|_=>True))(hc:w.cell? ad=some v):(execOp a.eval o).run P w=.ok (.value v) w/\(execOp a.eval o).events P w #[]=#[⟨.cell ad,false,false⟩]:=by
 obtain⟨U,hU,hn⟩:=ht;simp only[Act.eval,Az] at hx;unfold execOp
 cases U <;> first|exact hn.elim|skip
 all_goals simp[go_sem,hop,hx,Instr.loadAt,Instr.sureAddr,isAgg,run_underlying hU,hc]
theorem nE{P:Program}{a:Act}{o:Oper}{t:TypeId}{x:Operand}(hop:o.op=.load t x){ad:Addr}(hx:a.eval x=.pointer (some ad))(w:World){cs:List Value}{fs:Array Field}(hu:P.underlying t=some (.struct fs))(hi:(P.info? t).map (·.size)=some cs.length)(hc:∀ j v,cs[j]? = some v->w.cell? (ad.add j)=some v):(execOp a.eval o).run P w=.ok (.value (.agg cs.toArray)) w/\∀ ev∈(execOp a.eval o).events P w #[],ev.write=false:=by
 refine⟨?_,?_⟩
 .simp[execOp,hop,hx,Instr.loadAt,Instr.sureAddr,rX t ad cs _ hu rfl hi hc,Result.andThen]
 .intro ev h;simp only[Act.eval,Az] at hx;unfold execOp at h;simp only[hop] at h
  cases hinfo:P.info? t with
  | none=>rw[hinfo] at hi;cases hi
  | some i =>
   rw[hinfo] at hi;simp only[MK,Ba] at hi;simp[go_sem,hx,Instr.loadAt,Instr.sureAddr,isAgg,run_underlying hu,sizeOf,typeInfo,hinfo] at h;obtain⟨Un,_,h2,_⟩:=(events_loadCellsFrom_at ad (fun _=>True) trivial _ 0 _ w #[] (fun j hj=>by
    have hj:j<cs.length:=by omega
    simp only[lU];rw[hc j _ (kM hj)];rfl) ev h).resolve_left (by simp)
   exact h2
section
variable {P:Program}{a:Act}{o:Oper}{x y:Operand}{t:TypeId}
theorem BL{cs:Array Value}(hop:o.op=.box t x)(hx:a.eval x=.agg cs)(w:World):(execOp a.eval o).run P w=.ok (.value (pv w.heap.size)) (w.alloc (.cells cs t))/\(execOp a.eval o).events P w #[]=#[]:=by
 simp only[Act.eval,Az] at hx;unfold execOp;simp[go_sem,hop,hx,Instr.box,newVar,newRow,Value.cells,pv]
theorem Yj{p q:Int}{t':TypeId}(hop:o.op=.binOp .eql t x y t')(hx:a.eval x=.int .i64 p)(hy:a.eval y=.int .i64 q)(ht:P.underlying t=some (.int .i64))(w:World):(execOp a.eval o).run P w=.ok (.value (.bool (p==q))) w/\(execOp a.eval o).events P w #[]=#[]:=by
 simp only[Act.eval,Az] at hx hy;unfold execOp;simp[go_sem,hop,hx,hy,ht,run_underlying ht]
theorem adt{q:Bool}(hop:o.op=.unOp .not t x)(hx:a.eval x=.bool q)(w:World):(execOp a.eval o).run P w=.ok (.value (.bool !q)) w/\(execOp a.eval o).events P w #[]=#[]:=by
 simp only[Act.eval,Az] at hx;unfold execOp;simp[go_sem,hop,hx]
theorem QJ{f:FuncId}{caps:Array Value}{os:Array Operand}{ats:Array TypeId}{fn:Func}{vs:Array Value}(hop:o.op=.call {callee:=.value x,args:=os,argTypes:=ats})(hx:a.eval x=.func (.func f) #[] caps)(hv:os.map a.eval=vs)(hf:P.funcs[f]? = some fn)(hn:(fn.name == "runtime.NumGoroutine")=false)(hb:fn.body.isSome=true)(w:World):(execOp a.eval o).run P w=.ok (.enter f (vs++caps)) w/\(execOp a.eval o).events P w #[]=#[]:=by
 have h1:¬ fn.name = "runtime.NumGoroutine":=by simpa using hn
 have h2:¬ fn.body=none:=by intro h;rw[h] at hb;cases hb
 subst hv;have hr:resolve a.eval {callee:=.value x,args:=os,argTypes:=ats} o.type=pure {target:=.fn (.func f) caps,args:=#[]++os.map a.eval}:=by
  unfold resolve Deferred.ofValue;simp only[hx]
 unfold execOp;simp only[hop];rw[hr];simp[go_sem,invoke,callFunc,hf,h1,h2]
theorem Jk{f:FuncId}{caps:Array Operand}{vs:Array Value}(hop:o.op=.makeFunc (.func f) #[] caps)(hv:caps.map a.eval=vs)(w:World):(execOp a.eval o).run P w=.ok (.value (.func (.func f) #[] vs)) w/\(execOp a.eval o).events P w #[]=#[]:=by
 subst hv;unfold execOp;simp[go_sem,hop,Instr.makeFunc]
theorem Ug{x y z:Operand}{e1 e2:TypeId}{vx vy vz z1 z2:Value}(hop:o.op=.select #[{chan:=x,send:=some y,elem:=e1},{chan:=z,send:=none,elem:=e2}] true)(hx:a.eval x=vx)(hy:a.eval y=vy)(hz:a.eval z=vz)(h1:∀ w,(zeroValue e1).run P w=.ok z1 w/\(zeroValue e1).events P w #[]=#[])(h2:∀ w,(zeroValue e2).run P w=.ok z2 w/\(zeroValue e2).events P w #[]=#[])(w:World):(execOp a.eval o).run P w=.ok (.comm #[{chan:=vx,send:=some vy,zero:=z1},{chan:=vz,send:=none,zero:=z2}] true .select) w/\(execOp a.eval o).events P w #[]=#[]:=by
 subst hx hy hz;unfold execOp;simp only[hop];constructor
 .simp[qaP,qbj,qbs,(h1 _).1,(h2 _).1,Result.andThen]
 .simp[qaP,qbj,qbs,Sem.events_bind,Result.evThen,Result.andThen,(h1 _).2,(h2 _).2,(h1 _).1,(h2 _).1]
end
theorem fin_at{b:Frame}{a:Act}{ops:Array Oper}{i:Nat}{rest:List Nat}{k:List Item}{o:Oper}{v:Value}(ho:ops[i]? = some o):(b.at a (.inRegion ops (i::rest)::k)).finish v=b.at (a.put o.dst v) (.inRegion ops rest::k):=by rw[Frame.finish_at,ho];rfl
noncomputable def emB:Code:=Tryz.f76.body.getD .skip
section
variable {K:Op->Bool}{S:Nat->Prop}{c:Nat}{Sh:Value->Prop}{fU:List Value->World->Prop}
theorem Tv{xs:Array Value}(lb qb:Nat)(w:World)(hl:w.cell? ⟨lb,0,none⟩=some (.chan (some c)))(hq:w.cell? ⟨qb,0,none⟩=some (.chan none))(hS:∀ b,S b->b<w.heap.size)(hxs:xs.size=11){fr:Frame}{cs:List Frame}{m:Nat}{vs:List Value}(hsh:Sh (.agg xs))(hn:WS qp0 (Sr.iM ε) K S c Sh fU m (vs++[.agg xs]) (fr.finish (.bool true)) cs (w.alloc (.cells xs 42))):GW qp0 (Sr.iM ε) S (qY qp0 (Sr.iM ε) K S c Sh fU (m+1) vs) (Frame.enter qp0 76 #[.agg xs,pv lb,pv qb] .normal) (fr::cs) w:=by
 rw[enter_at (P:=qp0) (f:=76) (fn:=Tryz.f76) (c:=emB) #[.agg xs,pv lb,pv qb] func76 rfl];simp only[Tryz.f76,emB,Option.getD_some];have e0:(#[.agg xs,pv lb,pv qb]++Array.replicate (12-#[Value.agg xs,pv lb,pv qb].size) au:Array Value)=#[.agg xs,pv lb,pv qb,au,au,au,au,au,au,au,au,au]:=rfl;rw[e0];refine .seq ?_;refine .region ?_;simp only[rJ,oH,List.length_nil,Nat.reduceAdd,lU,List.range,List.range.loop];refine .val rfl rfl (by decide) (by kernel_rfl) (by simp) (pv w.heap.size) (w.alloc (.cells xs 42)) (fun τ d=>(BL rfl rfl _).1) (fun τ d e he=>by rw[(BL (cs:=xs) rfl rfl _).2] at he;simp at he) ?_ (hf:=Sr.wY hS _);walk_nrm;refine .move rfl rfl (by decide) (by kernel_rfl) (.inr rfl) ?_;walk_nrm;refine .rend ?_;have hbel:Below w.heap.size w (w.alloc (.cells xs 42)):=(Below.refl _ _).alloc (aY _) _;have hl':(w.alloc (.cells xs 42)).cell? ⟨lb,0,none⟩=some (.chan (some c)):=by rw[hbel.cell (World.block_lt_of_cell? (w:=w) (a:=⟨lb,0,none⟩) hl)];exact hl
 have hq':(w.alloc (.cells xs 42)).cell? ⟨qb,0,none⟩=some (.chan none):=by rw[hbel.cell (World.block_lt_of_cell? (w:=w) (a:=⟨qb,0,none⟩) hq)];exact hq
 have hr':(w.alloc (.cells xs 42)).heap[w.heap.size]? = some (.cells xs 42):=JL;generalize hw1:w.alloc (.cells xs 42)=w1 at *
 refine .seq ?_;refine .seq ?_;refine .seq ?_;refine .region ?_;simp only[rJ,oH,List.length_nil,Nat.reduceAdd,lU,List.range,List.range.loop];refine .val rfl rfl (by decide) (by kernel_rfl) (by simp) (.chan (some c)) w1 (fun τ d=>(jR (w:=tp w1 τ d) rfl rfl ⟨_,underlying142,trivial⟩ hl').1) (fun τ d e he=>by rw[(jR (w:=tp w1 τ d) rfl rfl ⟨_,underlying142,trivial⟩ hl').2] at he;simp at he;subst he;exact fun _ _ _=>rfl) ?_;walk_nrm;refine .rend ?_;refine .region ?_;simp only[rJ,oH,List.length_nil,Nat.reduceAdd,lU,List.range,List.range.loop];have hlen:(qp0.info? 42).map (·.size)=some xs.toList.length:=by
  rw[U5,hxs];kernel_rfl
 have hcells:∀ j v,xs.toList[j]? = some v->w1.cell? ((⟨w.heap.size,0,none⟩:Addr).add j)=some v:=fun j v hj=>by
  have hj':xs[j]? = some v:=by rw[<-qaV];exact hj
  have:=Gr.aG hr' j;rw[hj'] at this;have e:(⟨w.heap.size,0,none⟩:Addr).add j=⟨w.heap.size,j,none⟩:=by
   simp only[Addr.add];split
   .rename_i h0;subst h0;rfl
   .simp
  rw[e];exact this
 refine .val rfl rfl (by decide) (by kernel_rfl) (by simp) (.agg xs) w1 (fun τ d=>by
  have:=(nE (P:=qp0) (a:=⟨#[.agg xs,pv lb,pv qb,pv w.heap.size,.bool false,.chan (some c),au,au,au,au,au,au],[]⟩) (o:={dst:=some 6,op:=Op.load 42 (Operand.tmp 3),type:=42,pos := "stream.go:201",after:=#[],guard:=none}) rfl (ad:=⟨w.heap.size,0,none⟩) rfl (tp w1 τ d) underlying42 hlen hcells).1;rw[qbW] at this;exact this) (fun τ d e he=>by
  have:=(nE (P:=qp0) (a:=⟨#[.agg xs,pv lb,pv qb,pv w.heap.size,.bool false,.chan (some c),au,au,au,au,au,au],[]⟩) (o:={dst:=some 6,op:=Op.load 42 (Operand.tmp 3),type:=42,pos := "stream.go:201",after:=#[],guard:=none}) rfl (ad:=⟨w.heap.size,0,none⟩) rfl (tp w1 τ d) underlying42 hlen hcells).2 e he;exact fun _ _ _=>this) ?_
 walk_nrm;refine .rend ?_;refine .region ?_;simp only[rJ,oH,List.length_nil,Nat.reduceAdd,lU,List.range,List.range.loop];refine .val rfl rfl (by decide) (by kernel_rfl) (by simp) (.chan none) w1 (fun τ d=>(jR (w:=tp w1 τ d) rfl rfl ⟨_,underlying141,trivial⟩ hq').1) (fun τ d e he=>by rw[(jR (w:=tp w1 τ d) rfl rfl ⟨_,underlying141,trivial⟩ hq').2] at he;simp at he;subst he;exact fun _ _ _=>rfl) ?_;walk_nrm;refine .rend ?_;refine .seq ?_;refine .region ?_;simp only[rJ,oH,List.length_nil,Nat.reduceAdd,lU,List.range,List.range.loop];have hz1:∀ w,(zeroValue 42).run qp0 w=.ok (.agg fZ) w/\(zeroValue 42).events qp0 w #[]=#[]:=fun w=>by
  have hi:(qp0.info? 42).bind (·.zero)=some (.agg fZ):=by kernel_rfl
  obtain⟨i,hi,h0⟩:=qbc.1 hi;simp[go_sem,zeroValue,typeInfo,hi,h0]
 have hz2:∀ w,(zeroValue 143).run qp0 w=.ok (.agg #[]) w/\(zeroValue 143).events qp0 w #[]=#[]:=fun w=>by
  have hi:(qp0.info? 143).bind (·.zero)=some (.agg #[]):=by kernel_rfl
  obtain⟨i,hi,h0⟩:=qbc.1 hi;simp[go_sem,zeroValue,typeInfo,hi,h0]
 refine .stop fun τ d=>?_
 refine⟨.agg xs,.agg #[],⟨?_,by simp,.agg fZ,#[],?_,by simp⟩,hsh,?_⟩
 .exact Sr.nL rfl (by kernel_rfl) (by simp)
 .have hs:=Ug (P:=qp0) (a:=⟨#[.agg xs,pv lb,pv qb,pv w.heap.size,.bool false,.chan (some c),.agg xs,.chan none,au,au,au,au],[]⟩) (o:={dst:=some 8,op:=Op.select #[{chan:=Operand.tmp 5,send:=some (Operand.tmp 6),elem:=42},{chan:=Operand.tmp 7,send:=none,elem:=143}] true,type:=0,pos := "stream.go:200",after:=#[],guard:=none}) rfl rfl rfl rfl hz1 hz2 (tp w1 τ d);rw[stepG_comm (cases:=#[scase c (.agg xs) (.agg fZ),rcaseNil (.agg #[])]) (blocking:=true) (shape:=.select) (w':=tp w1 τ d) rfl rfl (by decide) hs.1,listed_none hs.2]
 .refine(Sr.gT ..).2 ?_;refine GW.zl (w:=w1) ?_ τ d;rw[fin_at rfl];walk_nrm;refine .still (i:=1) rfl rfl (by decide) (by kernel_rfl) (by simp) (goInt 0) (fun ω=>Cc.eP rfl rfl rfl ω) ?_;walk_nrm;refine .still rfl rfl (by decide) (by kernel_rfl) (by simp) _ (fun ω=>Yj (p:=0) (q:=0) rfl rfl rfl underlying3 ω) ?_;walk_nrm;refine .still rfl rfl (by decide) (by kernel_rfl) (by simp) _ (fun ω=>Yj (p:=0) (q:=1) rfl rfl rfl underlying3 ω) ?_;walk_nrm;refine .rend ?_;refine .block ?_;refine .cond (t:=true) rfl ?_;simp only[if_true];refine .seq ?_;refine .region ?_;simp only[rJ,oH,List.length_nil,Nat.reduceAdd,lU,List.range,List.range.loop];refine .move rfl rfl (by decide) (by kernel_rfl) (.inr rfl) ?_;walk_nrm;refine .rend ?_;refine .ret ?_;refine .leave (v:=.bool true) rfl rfl func76 (fun w=>?_) ?_
  .simp[results,Tryz.f76]
  .exact(Sr.gT ..).1 hn
theorem getD_set_ne{t:Array Value}{i j:Nat}{v:Value}(h:i≠j):(t.setIfInBounds i v).getD j au=t.getD j au:=by
 rw[Az,Az,ow h]
theorem gq{t:Array Value}{i:Nat}{v:Value}(h:i<t.size):(t.setIfInBounds i v).getD i au=v:=by
 rw[Az,Sn h];rfl
def handed(t:Array Value)(E v:Value):Array Value:=(((t.setIfInBounds 98 E).setIfInBounds 99 v).setIfInBounds 100 (.bool true)).setIfInBounds 101 (.bool false)
def bR:Frame:=base 75
theorem Uc{xs:Array Value}(lb qb eb:Nat)(w:World)(t:Array Value)(ds:List Deferred)(ht:t.size=113)(h1:t.getD 1 au=cB lb qb)(h8:t.getD 8 au=pv eb)(hr:w.heap[eb]? = some (.cells xs 42))(hl:w.cell? ⟨lb,0,none⟩=some (.chan (some c)))(hq:w.cell? ⟨qb,0,none⟩=some (.chan none))(hS:∀ b,S b->b<w.heap.size)(hxs:xs.size=11){k:List Item}{cs:List Frame}{m:Nat}{vs:List Value}(hsh:Sh (.agg xs))(hn:WS qp0 (Sr.iM ε) K S c Sh fU m (vs++[.agg xs]) (bR.at ⟨handed t (cB lb qb) (.agg xs),ds⟩ k) cs (w.alloc (.cells xs 42))):GW qp0 (Sr.iM ε) S (qY qp0 (Sr.iM ε) K S c Sh fU (m+1) vs) (bR.at ⟨t,ds⟩ (.code runM::k)) cs w:=by
 simp only[runM,runN,Cz,Di,yV,AA,rE,Tryz.f75,Option.getD_some];refine .seq ?_;refine .region ?_;simp only[rJ,oH,List.length_nil,Nat.reduceAdd,lU,List.range,List.range.loop];refine .move rfl rfl (by decide) (by kernel_rfl) (.inl rfl) ?_;have e1:(⟨t,ds⟩:Act).eval (.tmp 1)=cB lb qb:=h1;rw[e1];have hlen:(qp0.info? 42).map (·.size)=some xs.toList.length:=by
  rw[U5,hxs];kernel_rfl
 have hcells:∀ j v,xs.toList[j]? = some v->w.cell? ((⟨eb,0,none⟩:Addr).add j)=some v:=fun j v hj=>by
  have hj':xs[j]? = some v:=by rw[<-qaV];exact hj
  have:=Gr.aG hr j;rw[hj'] at this;have e:(⟨eb,0,none⟩:Addr).add j=⟨eb,j,none⟩:=by
   simp only[Addr.add];split
   .rename_i h0;subst h0;rfl
   .simp
  rw[e];exact this
 have e8:(⟨t.setIfInBounds 98 (cB lb qb),ds⟩:Act).eval (.tmp 8)=.pointer (some ⟨eb,0,none⟩):=by
  show(t.setIfInBounds 98 (cB lb qb)).getD 8 au=_;rw[getD_set_ne (by decide)];exact h8
 have hld:=fun τ d=>nE (P:=qp0) (a:=⟨t.setIfInBounds 98 (cB lb qb),ds⟩) (o:={dst:=some 99,op:=Op.load 42 (Operand.tmp 8),type:=42,pos := "stream.go:177",after:=#[],guard:=none}) rfl e8 (tp w τ d) underlying42 hlen hcells
 rw[qbW] at hld;refine .val rfl rfl (by decide) (by kernel_rfl) (by simp) (.agg xs) w (fun τ d=>(hld τ d).1) (fun τ d e he=>fun _ _ _=>(hld τ d).2 e he) ?_;have e98:(⟨(t.setIfInBounds 98 (cB lb qb)).setIfInBounds 99 (.agg xs),ds⟩:Act).eval (.tmp 98)=cB lb qb:=by
  show((t.setIfInBounds 98 (cB lb qb)).setIfInBounds 99 (.agg xs)).getD 98 au=_;rw[getD_set_ne (by decide),gq (by omega)]
 have e99:#[Operand.tmp 99].map (⟨(t.setIfInBounds 98 (cB lb qb)).setIfInBounds 99 (.agg xs),ds⟩:Act).eval=#[.agg xs]:=by
  have:(⟨(t.setIfInBounds 98 (cB lb qb)).setIfInBounds 99 (.agg xs),ds⟩:Act).eval (.tmp 99)=.agg xs:=by
   show((t.setIfInBounds 98 (cB lb qb)).setIfInBounds 99 (.agg xs)).getD 99 au=_;rw[gq (by simp;omega)]
  simp only[List.map_toArray,qcf,List.map_nil,this]
 refine .enter rfl rfl (by decide) (by kernel_rfl) (by simp) 76 #[.agg xs,pv lb,pv qb] (fun ω=>QJ (vs:=#[.agg xs]) rfl e98 e99 func76 (by decide) rfl ω) ?_;refine Tv lb qb w hl hq hS hxs hsh ((Sr.gT ..).2 ?_);rw[fin_at rfl];have e100:(⟨((t.setIfInBounds 98 (cB lb qb)).setIfInBounds 99 (.agg xs)).setIfInBounds 100 (.bool true),ds⟩:Act).eval (.tmp 100)=.bool true:=by
  show(((t.setIfInBounds 98 (cB lb qb)).setIfInBounds 99 (.agg xs)).setIfInBounds 100 (.bool true)).getD 100 au=_;rw[gq (by simp;omega)]
 refine .still rfl rfl (by decide) (by kernel_rfl) (by simp) (.bool false) (fun ω=>adt (q:=true) rfl e100 ω) ?_;refine .rend ?_;have agY:(⟨handed t (cB lb qb) (.agg xs),ds⟩:Act).eval (.tmp 101)=.bool false:=by
  show(handed t (cB lb qb) (.agg xs)).getD 101 au=_;unfold handed;rw[gq (by simp;omega)]
 refine .cond (t:=false) agY ?_;simp only[jI,if_false];refine .skip ?_;exact(Sr.gT ..).1 hn
end
end St
end
section
open Go.Conc
open Cc (tp)
namespace St
open Sr (GW WS qY Qt bT gB dR fQ bU)
open Gr (gJ aN)
def Cn.tp(C:Cn)(τ:Nat->Question->Nat):Cn:={C with w0:=Cc.tp C.w0 τ 0}
theorem Cn.Ok.tp{C:Cn}(h:C.Ok)(τ:Nat->Question->Nat):(C.tp τ).Ok:=⟨h.dat,h.dn,h.wb,h.mb,h.ne,h.ml,h.er,h.pw,h.lim⟩
section
variable {C:Cn}{A:Ad}{o:Nat}{s:bW}{w w':World}{τ jH:Nat->Question->Nat}{d d':Nat}
theorem Wk.shift(h:Wk (C.tp τ) A o s w)(jH:Nat->Question->Nat)(d':Nat):Wk (C.tp jH) A o s (Cc.tp w jH d') :=⟨⟨h.bJ.os,rfl,h.bJ.output,h.bJ.size,h.bJ.block⟩,h.row,h.glob,h.loc,h.long,h.gb,h.lb,h.fit,h.Zv⟩
theorem gL.shift(h:gL (C.tp τ) (Cc.tp w τ d) w')(jH:Nat->Question->Nat)(d1 d':Nat):gL (C.tp jH) (Cc.tp w jH d1) (Cc.tp w' jH d'):=⟨h.os,rfl,h.output,h.size,h.block⟩
theorem Q1.shift{rb:Nat}{e:Exit}{a:Act}(h:Q1 (C.tp τ) A o s rb (Cc.tp w τ d) e a w')(jH:Nat->Question->Nat)(d':Nat):Q1 (C.tp jH) A o s rb (Cc.tp w jH 0) e a (Cc.tp w' jH d'):=by
 obtain⟨h1,h2,h3⟩:=h;refine⟨h1,h2.shift ..,?_⟩
 cases e with
 | panic ch=>obtain⟨c,h4,h5,h6,h7⟩:=h3;exact⟨c,h4,h5,h6,h7.shift ..⟩
 | ret=>exact⟨h3.1,h3.2.shift ..⟩
 | normal=>obtain⟨h,gh,k1,k2,k3,k4⟩:=h3;exact⟨h,gh,k1,k2,k3.shift ..,k4⟩
 | _=>exact h3.elim
theorem Tj.shift{h:Hd}{rb:Nat}{f:Nat->Value}{e:Exit}{a:Act}(hh:Tj (C.tp τ) A o s h rb f (Cc.tp w τ d) e a w')(jH:Nat->Question->Nat)(d':Nat):Tj (C.tp jH) A o s h rb f (Cc.tp w jH 0) e a (Cc.tp w' jH d'):=by
 obtain⟨h1,h2⟩:=hh;have e1:(C.tp τ).data=C.data:=rfl;have e2:(C.tp τ).lim=C.lim:=rfl;rw[e1,e2] at h2;refine⟨h1.shift ..,?_⟩;show match Plain.extend C.data C.lim (o+512) h s with|.error c=>_|.ok s'=>_
 cases hx:Plain.extend C.data C.lim (o+512) h s with
 | error c=>rw[hx] at h2;exact⟨h2.1,h2.2.shift ..⟩
 | ok s'=>rw[hx] at h2;obtain⟨h3,h4,h5,A',h6⟩:=h2;exact⟨h3,h4,h5,A',h6.shift ..⟩
theorem RY.shift{h:Hd}{rb:Nat}{f:Nat->Value}{e:Exit}{a:Act}(hh:RY (C.tp τ) A o s h rb f (Cc.tp w τ d) e a w')(jH:Nat->Question->Nat)(d':Nat):RY (C.tp jH) A o s h rb f (Cc.tp w jH 0) e a (Cc.tp w' jH d'):=by
 obtain⟨h1,h2⟩:=hh;have e1:(C.tp τ).data=C.data:=rfl;rw[e1] at h2;refine⟨h1.shift ..,?_⟩;show match Plain.entry C.data (o+512) h s with|.error c=>_|.ok (en,size)=>_
 cases hx:Plain.entry C.data (o+512) h s with
 | error c=>rw[hx] at h2;exact⟨h2.1,h2.2.shift ..⟩
 | ok es =>
  obtain⟨en,size⟩:=es;rw[hx] at h2;obtain⟨h3,h4,h5,A',x,eb,h6,h7,h8,h9,h10⟩:=h2;exact⟨h3,h4,h5,A',x,eb,h6,h7,h8,h9.shift ..,h10⟩
theorem Q20.shift{rb:Nat}{e:Exit}{a:Act}(hh:Q20 (C.tp τ) A o s rb (Cc.tp w τ d) e a w')(jH:Nat->Question->Nat)(d':Nat):Q20 (C.tp jH) A o s rb (Cc.tp w jH 0) e a (Cc.tp w' jH d'):=by
 cases e with
 | normal=>obtain⟨h1,h2,h3⟩:=hh;exact⟨h1,h2.shift ..,h3.shift ..⟩
 | _=>exact hh.elim
end
theorem iH{P:Program}{Q Q':Exit->Act->World->Prop}(h:∀ e a w,Q e a w->Q' e a w):∀ {l:List Code}{a:Act}{w:World},gB P Q l a w->gB P Q' l a w
 | [],a,w,hs=>h _ _ _ hs
 | c::l,a,w,hs=>wp_mono hs fun e a w he=>by
  cases e with
  | normal=>exact iH h he
  | _=>exact h _ _ _ he
def Gp(C:Cn)(w:World)(F:Cn->World->Exit->Act->World->Prop)(e:Exit)(a:Act)(w':World):Prop:=∀ τ d,F (C.tp τ) (tp w τ 0) e a (tp w' τ d)
theorem Gp.tp{C:Cn}{w:World}{F:Cn->World->Exit->Act->World->Prop}{e:Exit}{a:Act}{w':World}(τ:Nat->Question->Nat)(d:Nat)(h:Gp C w F e a w'):Gp C w F e a (Cc.tp w' τ d):=fun jH d'=>h jH d'
theorem Gp.now{C:Cn}{w:World}{F:Cn->World->Exit->Act->World->Prop}{e:Exit}{a:Act}{w':World}(h:Gp C w F e a w'):F (C.tp w'.tape) (Cc.tp w w'.tape 0) e a w':=h w'.tape w'.drawn
end St
end
section
open Go.Conc
open Cc (tp)
namespace St
open Sr (GW WS qY Qt bT gB dR fQ bU over iM dW kW uE oN)
open Gr (gJ aN)
theorem Yi(l:List UInt8)(s e:Nat):(eH l s e).length<=e-s:=by unfold eH;rw[zW,zQ];omega
theorem Um{l:List UInt8}{h:Hd}(hr:Plain.hread l=(h,0)):0<=h.size/\h.size<=9223372036854775807/\h.name.length<=140737488351232:=by
 refine⟨Plain.Cy hr,?_,?_⟩
 .unfold Plain.hread at hr;split at hr
  .cases hr
  .split at hr
   .cases hr
   .split at hr
    .cases hr
    .rename_i h3
     simp only[MV,and_true] at hr;subst hr;have h4:nK l=true:=by simpa using h3
     unfold nK at h4;simp only[fE] at h4;have h5:=h4.1.1.2;unfold rQ at h5;have h6:=of_decide_eq_true h5;unfold NQ;simp only
     split
     .omega
     .exact h6.2.2
 .unfold Plain.hread at hr;split at hr
  .cases hr
  .split at hr
   .cases hr
   .split at hr
    .cases hr
    .simp only[MV,and_true] at hr;subst hr;show(nameOf l).length<=_;have h1:=tT (Plain.sU (eH l 345 500)) (Yi l 345 500);have h2:=tT (Plain.sU (eH l 0 100)) (Yi l 0 100);unfold nameOf;split
     .rw[vG,oH];omega
     .omega
structure Fx(C:Cn)(rb lb qb c:Nat)(w:World):Prop where
 bx:Bx C rb w
 r1:rb≠C.wb
 r2:rb≠C.mb
 l:w.cell? ⟨lb,0,none⟩=some (.chan (some c))
 l1:lb≠C.wb
 l2:lb≠C.mb
 q:w.cell? ⟨qb,0,none⟩=some (.chan none)
 q1:qb≠C.wb
 q2:qb≠C.mb
theorem Mt{C:Cn}{w w':World}(k:gL C w w'){a:Addr}{v:Value}(h:w.cell? a=some v)(h1:a.block≠C.wb)(h2:a.block≠C.mb):w'.cell? a=some v:=by
 have e:=k.block a.block (World.block_lt_of_cell? (w:=w) (a:=a) h) h1 h2;unfold World.cell? at h ⊢;rw[e];exact h
theorem Fx.chg{C:Cn}{rb lb qb c:Nat}{w w':World}{τ:Nat->Question->Nat}{d:Nat}(h:Fx C rb lb qb c w)(k:gL (C.tp τ) (tp w τ d) w'):Fx C rb lb qb c w' :=⟨⟨by have:=k.block rb (fT.1 h.bx.row).1 h.r1 h.r2;rw[this];exact h.bx.row⟩,h.r1,h.r2,Mt k (a:=⟨lb,0,none⟩) h.l h.l1 h.l2,h.l1,h.l2,Mt k (a:=⟨qb,0,none⟩) h.q h.q1 h.q2,h.q1,h.q2⟩
theorem Fx.tp{C:Cn}{rb lb qb c:Nat}{w:World}(h:Fx C rb lb qb c w)(τ:Nat->Question->Nat)(d:Nat):Fx C rb lb qb c (tp w τ d):=⟨⟨h.bx.row⟩,h.r1,h.r2,h.l,h.l1,h.l2,h.q,h.q1,h.q2⟩
theorem Fx.below{C:Cn}{rb lb qb c:Nat}{w w':World}(h:Fx C rb lb qb c w)(k:Below w.heap.size w w'):Fx C rb lb qb c w' :=⟨h.bx.below k,h.r1,h.r2,by rw[k.cell (World.block_lt_of_cell? (w:=w) (a:=⟨lb,0,none⟩) h.l)];exact h.l,h.l1,h.l2,by rw[k.cell (World.block_lt_of_cell? (w:=w) (a:=⟨qb,0,none⟩) h.q)];exact h.q,h.q1,h.q2⟩
def qH(w:World)(B:Nat)(vs:List Value)(es:List En):Prop:=vs.length=es.length/\∀ (i:Nat)(v:Value)(e:En),vs[i]? = some v->es[i]? = some e->∃ x:Option Addr×Nat×Nat,v=Value.agg (sS (e,x))/\iw w B (e,x)
theorem qH.nil(w:World)(B:Nat):qH w B [] []:=⟨rfl,fun i v e h _=>by simp at h⟩
theorem qH.snoc{w:World}{B:Nat}{vs:List Value}{es:List En}(h:qH w B vs es){e:En}{x:Option Addr×Nat×Nat}(ho:iw w B (e,x)):qH w B (vs++[.agg (sS (e,x))]) (es++[e]):=by
 refine⟨by simp[h.1],fun i v e' hv he=>?_⟩;rw[List.getElem?_append] at hv he;have hl:=h.1;by_cases hi:i<vs.length
 .rw[if_pos hi] at hv;rw[if_pos (by omega)] at he;exact h.2 i v e' hv he
 .rw[if_neg hi] at hv;rw[if_neg (by omega)] at he;rw[hl] at hv;generalize i-es.length=j at hv he
  cases j with
  | zero=>simp at hv he;subst hv he;exact⟨x,rfl,ho⟩
  | succ j=>simp at hv
theorem qH.keep{w w':World}{B:Nat}{vs:List Value}{es:List En}(h:qH w B vs es)(k:∀ e x,iw w B (e,x)->iw w' B (e,x)):qH w' B vs es :=⟨h.1,fun i v e hv he=>let ⟨x,h1,h2⟩:=h.2 i v e hv he;⟨x,h1,k e x h2⟩⟩
theorem Bu{C:Cn}{A:Ad}{o:Nat}{s:bW}{w w':World}{τ:Nat->Question->Nat}{d:Nat}(hw:Wk (C.tp τ) A o s (tp w τ d))(k:gL (C.tp τ) (tp w τ d) w'){B:Nat}(e:En)(x:Option Addr×Nat×Nat)(h:iw w B (e,x)):iw w' B (e,x):=by
 have h':iw (tp w τ d) B (e,x):=h;refine gJ h' fun b hb=>k.block b (h'.lt b hb).2 (fun e1=>?_) fun e1=>?_
 .exact aN h' hw.row (by decide) (by rw[hb];exact congrArg some e1)
 .exact Gr.Mp.yU hw.long h' (by rw[hb];exact congrArg some e1.symm)
theorem Pg{w w':World}(k:Below w.heap.size w w'){B:Nat}(e:En)(x:Option Addr×Nat×Nat)(h:iw w B (e,x)):iw w' B (e,x):=gJ h fun b hb=>k.block b (h.lt b hb).2
noncomputable def LB:Code:=match rE with|.seq _ (.seq _ (.block _ (.loop c)))=>c|_=>.skip
theorem aeT:LB=.block 1 AA:=by kernel_rfl
theorem aaz:AA=dR DN yV:=by kernel_rfl
theorem abq:yV=.seq (.block 2 Di) c20:=by kernel_rfl
theorem aah:Di=.seq c14 (.cond (.tmp 61) c15 Cz):=by kernel_rfl
theorem Z6:Cz=.seq c16 (.cond (.tmp 83) runN c13):=by kernel_rfl
theorem aag:runN=dR [c17,c18] runM:=by kernel_rfl
def mk(lb qb:Nat)(F9 x:Value):List (Nat×Value):=[(1,cB lb qb),(9,F9),(98,x)]
theorem mM(lb qb:Nat)(F9 x:Value)(t:Array Value):over (mk lb qb F9 x) t=((t.setIfInBounds 1 (cB lb qb)).setIfInBounds 9 F9).setIfInBounds 98 x:=rfl
theorem NS{lb qb:Nat}{F9 x:Value}{t:Array Value}{i:Nat}(h1:1≠i)(h9:9≠i)(h98:98≠i):(over (mk lb qb F9 x) t).getD i au=t.getD i au:=by
 rw[mM,getD_set_ne h98,getD_set_ne h9,getD_set_ne h1]
theorem mk_one{lb qb:Nat}{F9 x:Value}{t:Array Value}(ht:t.size=113):(over (mk lb qb F9 x) t).getD 1 au=cB lb qb:=by
 rw[mM,getD_set_ne (by decide),getD_set_ne (by decide),gq (by omega)]
theorem aa8{lb qb:Nat}{F9 x:Value}{t:Array Value}:(over (mk lb qb F9 x) t).size=t.size:=by rw[mM];simp
theorem TP{lb qb:Nat}{F9 x v:Value}{t:Array Value}:handed (over (mk lb qb F9 x) t) (cB lb qb) v=over (mk lb qb F9 (cB lb qb)) (((t.setIfInBounds 99 v).setIfInBounds 100 (.bool true)).setIfInBounds 101 (.bool false)):=by
 rw[mM,mM];unfold handed;apply TS
 .simp
 .intro i h1 h2;have key:∀ j:Nat,(handed (over (mk lb qb F9 x) t) (cB lb qb) v)[j]? = (over (mk lb qb F9 (cB lb qb)) (((t.setIfInBounds 99 v).setIfInBounds 100 (.bool true)).setIfInBounds 101 (.bool false)))[j]?:=fun j=>by
   unfold handed;rw[mM,mM];simp only[qa2,qb5];by_cases h1:1=j
   .subst h1;simp
   .by_cases h2:9=j
    .subst h2;simp
    .by_cases h3:98=j
     .subst h3;simp
     .by_cases h4:99=j
      .subst h4;simp
      .simp[h1,h2,h3,h4]
  have:=key i;unfold handed at this;rw[mM,mM] at this;rw[mJ h1,mJ h2] at this;exact pQ this
end St
end
end Go.Proofs.YtdbgldieilgnmaaGreatDoor
