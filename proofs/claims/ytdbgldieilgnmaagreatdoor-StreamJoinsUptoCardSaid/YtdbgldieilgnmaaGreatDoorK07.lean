/- K07 -/
import Derived.Test.YtdbgldieilgnmaaGreatDoorK06
set_option linter.all false
set_option maxHeartbeats 8000000
set_option maxRecDepth 100000
namespace Go.Proofs.YtdbgldieilgnmaaGreatDoor
open Tryz
open Go.Proofs.Tryz renaming prog → qp0
open ChangeShapes WideShapes ChangeAt RowKit
open Go renaming undef → au
section
namespace St
variable {P:Program}{ops:Array Oper}{Q:Exit->Act->World->Prop}{md:Region.Mode}{S:World->Prop}
theorem oK(i:Nat)(v:Value){oi:Oper}{fuel:Nat}{listed:Array Bool}{a:Act}{w:World}(h1:∀ w,S w->(execOp a.eval oi).run P w=.ok (.value v) w)(h2:wpAnyH P md ops Q S fuel (listed.setIfInBounds i true) (a.put oi.dst v) w)(hi:ops[i]? = some oi:=by rfl)(hs:Region.noSelect ops=true:=by kernel_rfl)(hf:Region.free md ops listed i=true:=by kernel_rfl)(hr:(Region.ready md ops listed).contains i=true:=by kernel_rfl)(hQ:∀ c a w,Q (.panic c) (a.put oi.dst v) w->Q (.panic c) a w:=by exact fun _ _ _ h=>h)(hw:Region.wanted oi (yielded ops a.tmps)=true:=by rfl)(hS:S w:=by assumption):wpAnyH P md ops Q S (fuel+1) listed a w :=wpAnyH_take hi hs hf hr hQ (Or.inl ⟨hw,h1⟩) hS h2
end St
end
section
open Go.Maps (Keyed)
namespace St
open Gr (aZ aD aN aO aX aG aS aU)
theorem lawB:Keyed qp0 5:=Maps.int_keyed underlying5
theorem Ec(w:World):(zeroValue 213).run qp0 w=.ok (.agg #[.string ⟨#[]⟩]) w:=by kernel_rfl
theorem Qm(x:UInt8):keyOf qp0 5 (.int .u8 (x.toNat:Int))=some (zG x):=by
 have hx:=x.toNat_lt;exact Maps.keyOf_int_mk underlying5 (WalkArith.wf_u8 (by omega))
theorem aam(s:bW):(gY s 76).getD (.agg #[.string ⟨#[]⟩])=.agg #[.string ⟨s.ln.toArray⟩]:=by
 unfold gY lgV;rw[if_pos rfl]
 cases s.ln <;> simp
theorem aae(s:bW):(gY s 75).getD (.agg #[.string ⟨#[]⟩])=.agg #[.string ⟨s.lr.toArray⟩]:=by
 unfold gY lgV;rw[if_neg (by decide),if_pos rfl]
 cases s.lr <;> simp
theorem Ep{C:Cn}{A:Ad}{o:Nat}{s:bW}{wr:World}(h:Wk C A o s wr):wr.cell? ⟨C.wb,8,none⟩=some (.slice A.ga A.gn A.gc)/\wr.cell? ⟨C.wb,9,none⟩=some (.slice A.la A.ln A.lc)/\wr.cell? ⟨C.wb,11,none⟩=some (.map (some C.mb)) /\ (Instr.lookup 83 (.map (some C.mb)) (.int .u8 76) false).run qp0 wr=.ok (.agg #[.string ⟨s.ln.toArray⟩]) wr/\(Instr.lookup 83 (.map (some C.mb)) (.int .u8 75) false).run qp0 wr=.ok (.agg #[.string ⟨s.lr.toArray⟩]) wr:=by
 have afX:=h.long.Kj (t:=83) lawB underlying83 (Ec _) 76 (Qm 76);have aeU:=h.long.Kj (t:=83) lawB underlying83 (Ec _) 75 (Qm 75);rw[aam] at afX;rw[aae] at aeU;exact⟨h.cell 8,h.cell 9,h.cell 11,afX,aeU⟩
theorem KG{wr:World}{hb:Nat}{h:Hd}(hr:wr.heap[hb]? = some (.cells (dQ h) 74)):wr.cell? ⟨hb,0,none⟩=some (.string ⟨h.name.toArray⟩)/\wr.cell? ⟨hb,1,none⟩=some (.string ⟨h.link.toArray⟩)/\wr.cell? ⟨hb,2,none⟩=some (.int .i64 h.mode)/\wr.cell? ⟨hb,3,none⟩=some (.int .i64 h.uid)/\wr.cell? ⟨hb,4,none⟩=some (.int .i64 h.gid)/\wr.cell? ⟨hb,5,none⟩=some (.int .i64 h.size)/\wr.cell? ⟨hb,6,none⟩=some (.int .i64 h.mtime)/\wr.cell? ⟨hb,7,none⟩=some (.int .u8 (h.ty.toNat:Int))/\wr.cell? ⟨hb,8,none⟩=some (.string ⟨h.user.toArray⟩)/\wr.cell? ⟨hb,9,none⟩=some (.string ⟨h.group.toArray⟩)/\wr.cell? ⟨hb,10,none⟩=some (.int .i64 h.major)/\wr.cell? ⟨hb,11,none⟩=some (.int .i64 h.minor)/\wr.cell? ⟨hb,12,none⟩=some (.int .i64 h.form):=by
 refine⟨?_,?_,?_,?_,?_,?_,?_,?_,?_,?_,?_,?_,?_⟩ <;> (rw[aG hr];rfl)
theorem NZ(v:ByteArray)(w:World):(Instr.field 213 (.agg #[.string v]) 0).run qp0 w=.ok (.string v) w:=by kernel_rfl
section
variable {P:Program}
theorem jS{ops:Array Oper}{o:Oper}{a:Act}{w:World}{K:Act->World->Prop}{Q:Exit->Act->World->Prop}{E:Prop}(hgd:o.guard=none)(ty:TypeId)(x y:Operand)(ho:o.op=.store ty x y)(g:Nat)(hx:a.eval x=.pointer (some ⟨g,0,none⟩))(cs:Array Value)(hy:a.eval y=.agg cs)(old:Array Value)(t:TypeId)(hh:w.heap[g]? = some (.cells old t (0,0)))(hsz:old.size=cs.size)(hi:(P.info? ty).map (·.size)=some cs.size)(h1:∀ u∈cs.toList,u.oneCell'=true)(h:K (a.put o.dst au) (w.setRow g cs)):if Region.wanted o (yielded ops a.tmps)=true then Oper.wp P o a w K Q else E:=by
 have hw:Region.wanted o (yielded ops a.tmps)=true:=by simp[Region.wanted,hgd]
 rw[if_pos hw];unfold Oper.wp;obtain⟨i,hi',hs'⟩:=zA.1 hi;have hr:=run_storeCells_at (P:=P) g 0 t cs.toList 0 old w hh (by simp[hsz]) h1;have e:(old.toList.take (0+0)++cs.toList++old.toList.drop (0+0+cs.toList.length)).toArray=cs:=by
  simp[qa9,hsz]
 rw[e] at hr;simp[execOp,ho,hx,hy,Instr.storeAt,Instr.sureAddr,storeVar,sizeOf,typeInfo,hi',hs',Value.cells,hr,Result.andThen];exact h
end
theorem agS:True:=trivial
def ac1(w:World)(H:Array Value):World:=(w.alloc (.cells H 74)).alloc (.cells fZ 42)
def Tz(C:Cn)(A:Ad)(o:Nat)(h:Hd)(s:bW)(w:World)(e:Ending)(w':World):Prop :=(match Plain.entry C.data (o+512) h s with
  | .error c=>e=.panicked (mK c)/\Wk C A o s w'
  | .ok (en,size)=>∃ (A':Ad)(x:Option Addr×Nat×Nat),e=.returned (.tuple #[.agg (sS (en,x)),.int .i64 size])/\Wk C A' o (Plain.clean s) w'/\iw w' C.w0.heap.size (en,x))/\gL C w w'
theorem SS(C:Cn)(hC:C.Ok)(A:Ad)(o:Nat)(h:Hd)(s:bW)(w:World)(hw:Wk C A o s w)(ho:o+512<=C.dn)(hn:h.name.length<=140737488351232)(hs0:0<=h.size)(hs1:h.size<=9223372036854775807):Calls qp0 116 #[.pointer (some ⟨C.wb,0,none⟩),.agg (dQ h)] w (Tz C A o h s w):=by
 have HAP:=ah (fun (wr:World)(hb:Below w.heap.size w wr)=>Ov.TJ h A.ga A.la A.gn A.gc A.ln A.lc s.glob s.loc s.ln s.lr wr C.ev (hw.below hb).Rp (hw.below hb).afa hw.gb.prl hw.lb.prl (by have:=hw.Rp.len;have:=hw.gb.1;omega) (by have:=hw.afa.len;have:=hw.lb.1;omega) hn (by have:=hw.fit.2.2.2.1;have hl:=hC.lim;unfold Plain.eT at hl;have:=of_decide_eq_true hl;omega) (hC.ml.below (hw.below hb).bJ) (hC.er.below (hw.below hb).bJ));generalize hap:Plain.gG h s.glob s.loc s.ln s.lr=r at HAP;have HRR:=ah hap;clear hap;unfold Ov.apV at HAP;obtain⟨r1,r2,r3⟩:=r;simp only at HAP;have HO:=ah (jP h);have HI:=ah (mo h);have HEW:=ah (Ov.IU.new w (dQ h));have HW:=ah hw;have hbase:=hw.bJ.size;clear hw;go_enter func116,ntmps116;go_upto_region 1 with fail
 change Code.wp _ _ _ _ (ac1 w (dQ h))
 have Ij:Hid (Ov.IU w (dQ h) fZ (ac1 w (dQ h))):=HEW;clear HEW;generalize ac1 w (dQ h)=w1 at *
 have hwk:=HW.out.below Ij.out.bJ;have ML:=ah hwk;have hdd:Below w1.heap.size w1 w1.drew:=(Below.refl _ _).drew;have ahc:=NZ;have HD:=ah (And.intro (Ep (hwk.below hdd)) (KG (aU Ij.out.rh hdd)));have jZ:=ah (fun w' (hb:Below w1.heap.size w1 w')=>And.intro (Ep (hwk.below hb)) (KG (aU Ij.out.rh hb)));clear hdd hwk;go_cut [6,7,8] from 10 to 35 (fun v6 v7 v8 wx=>∃ (ge:Nat),v6=.pointer (some ⟨ge,0,none⟩)/\v7=.int .i64 r2/\v8=.int .i64 r3/\Hid (Below w1.heap.size w1 wx)/\Hid (w1.heap.size<=ge)/\Hid (wx.heap[ge]? = some (.cells (ru r1 none 0 0) 42)))
 case first =>
  refine wp_region_held_drew (S:=fun w':World=>Below w1.heap.size w1 w') (by kernel_rfl) ((Below.refl _ _).drew) (fun hHeld=>?_);refine oK 0 (.agg #[.string ⟨h.name.toArray⟩,.string ⟨h.link.toArray⟩,.int .i64 h.mode,.int .i64 h.uid,.int .i64 h.gid,.int .i64 h.size,.int .i64 h.mtime,.int .u8 (h.ty.toNat:Int),.string ⟨h.user.toArray⟩,.string ⟨h.group.toArray⟩,.int .i64 h.major,.int .i64 h.minor,.int .i64 h.form]) ?_ ?_
  .intro wz hSw;have hdy:=jZ.out wz hSw;obtain⟨⟨s1,s2,s3,s4,s5⟩,s6,s7,s8,s9,s10,s11,s12,s13,vo,s15,s16,uN,uW⟩:=hdy;go_simp
  (try simp only[Act.put,eu,dY,qzs,qzl])
  refine oK 1 (.pointer (some ⟨C.wb,0,none⟩)) ?_ ?_
  .intro wz hSw;have hdy:=jZ.out wz hSw;obtain⟨⟨s1,s2,s3,s4,s5⟩,s6,s7,s8,s9,s10,s11,s12,s13,vo,s15,s16,uN,uW⟩:=hdy;go_simp
  (try simp only[Act.put,eu,dY,qzs,qzl])
  refine oK 2 (.pointer (some ⟨C.wb,0,none⟩)) ?_ ?_
  .intro wz hSw;have hdy:=jZ.out wz hSw;obtain⟨⟨s1,s2,s3,s4,s5⟩,s6,s7,s8,s9,s10,s11,s12,s13,vo,s15,s16,uN,uW⟩:=hdy;go_simp
  (try simp only[Act.put,eu,dY,qzs,qzl])
  refine oK 3 (.pointer (some ⟨C.wb,8,none⟩)) ?_ ?_
  .intro wz hSw;have hdy:=jZ.out wz hSw;obtain⟨⟨s1,s2,s3,s4,s5⟩,s6,s7,s8,s9,s10,s11,s12,s13,vo,s15,s16,uN,uW⟩:=hdy;go_simp
  (try simp only[Act.put,eu,dY,qzs,qzl])
  refine oK 4 (.slice A.ga A.gn A.gc) ?_ ?_
  .intro wz hSw;have hdy:=jZ.out wz hSw;obtain⟨⟨s1,s2,s3,s4,s5⟩,s6,s7,s8,s9,s10,s11,s12,s13,vo,s15,s16,uN,uW⟩:=hdy;go_simp
  (try simp only[Act.put,eu,dY,qzs,qzl])
  refine oK 5 (.pointer (some ⟨C.wb,0,none⟩)) ?_ ?_
  .intro wz hSw;have hdy:=jZ.out wz hSw;obtain⟨⟨s1,s2,s3,s4,s5⟩,s6,s7,s8,s9,s10,s11,s12,s13,vo,s15,s16,uN,uW⟩:=hdy;go_simp
  (try simp only[Act.put,eu,dY,qzs,qzl])
  refine oK 6 (.pointer (some ⟨C.wb,0,none⟩)) ?_ ?_
  .intro wz hSw;have hdy:=jZ.out wz hSw;obtain⟨⟨s1,s2,s3,s4,s5⟩,s6,s7,s8,s9,s10,s11,s12,s13,vo,s15,s16,uN,uW⟩:=hdy;go_simp
  (try simp only[Act.put,eu,dY,qzs,qzl])
  refine oK 7 (.pointer (some ⟨C.wb,9,none⟩)) ?_ ?_
  .intro wz hSw;have hdy:=jZ.out wz hSw;obtain⟨⟨s1,s2,s3,s4,s5⟩,s6,s7,s8,s9,s10,s11,s12,s13,vo,s15,s16,uN,uW⟩:=hdy;go_simp
  (try simp only[Act.put,eu,dY,qzs,qzl])
  refine oK 8 (.slice A.la A.ln A.lc) ?_ ?_
  .intro wz hSw;have hdy:=jZ.out wz hSw;obtain⟨⟨s1,s2,s3,s4,s5⟩,s6,s7,s8,s9,s10,s11,s12,s13,vo,s15,s16,uN,uW⟩:=hdy;go_simp
  (try simp only[Act.put,eu,dY,qzs,qzl])
  refine oK 9 (.pointer (some ⟨C.wb,0,none⟩)) ?_ ?_
  .intro wz hSw;have hdy:=jZ.out wz hSw;obtain⟨⟨s1,s2,s3,s4,s5⟩,s6,s7,s8,s9,s10,s11,s12,s13,vo,s15,s16,uN,uW⟩:=hdy;go_simp
  (try simp only[Act.put,eu,dY,qzs,qzl])
  refine oK 10 (.pointer (some ⟨C.wb,0,none⟩)) ?_ ?_
  .intro wz hSw;have hdy:=jZ.out wz hSw;obtain⟨⟨s1,s2,s3,s4,s5⟩,s6,s7,s8,s9,s10,s11,s12,s13,vo,s15,s16,uN,uW⟩:=hdy;go_simp
  (try simp only[Act.put,eu,dY,qzs,qzl])
  refine oK 11 (.pointer (some ⟨C.wb,11,none⟩)) ?_ ?_
  .intro wz hSw;have hdy:=jZ.out wz hSw;obtain⟨⟨s1,s2,s3,s4,s5⟩,s6,s7,s8,s9,s10,s11,s12,s13,vo,s15,s16,uN,uW⟩:=hdy;go_simp
  (try simp only[Act.put,eu,dY,qzs,qzl])
  refine oK 12 (.map (some C.mb)) ?_ ?_
  .intro wz hSw;have hdy:=jZ.out wz hSw;obtain⟨⟨s1,s2,s3,s4,s5⟩,s6,s7,s8,s9,s10,s11,s12,s13,vo,s15,s16,uN,uW⟩:=hdy;go_simp
  (try simp only[Act.put,eu,dY,qzs,qzl])
  refine oK 13 (.agg #[.string ⟨s.ln.toArray⟩]) ?_ ?_
  .intro wz hSw;have hdy:=jZ.out wz hSw;obtain⟨⟨s1,s2,s3,s4,s5⟩,s6,s7,s8,s9,s10,s11,s12,s13,vo,s15,s16,uN,uW⟩:=hdy;go_simp
  (try simp only[Act.put,eu,dY,qzs,qzl])
  refine oK 14 (.string ⟨s.ln.toArray⟩) ?_ ?_
  .intro wz hSw;have hdy:=jZ.out wz hSw;obtain⟨⟨s1,s2,s3,s4,s5⟩,s6,s7,s8,s9,s10,s11,s12,s13,vo,s15,s16,uN,uW⟩:=hdy;go_simp
  (try simp only[Act.put,eu,dY,qzs,qzl])
  refine oK 15 (.pointer (some ⟨C.wb,0,none⟩)) ?_ ?_
  .intro wz hSw;have hdy:=jZ.out wz hSw;obtain⟨⟨s1,s2,s3,s4,s5⟩,s6,s7,s8,s9,s10,s11,s12,s13,vo,s15,s16,uN,uW⟩:=hdy;go_simp
  (try simp only[Act.put,eu,dY,qzs,qzl])
  refine oK 16 (.pointer (some ⟨C.wb,0,none⟩)) ?_ ?_
  .intro wz hSw;have hdy:=jZ.out wz hSw;obtain⟨⟨s1,s2,s3,s4,s5⟩,s6,s7,s8,s9,s10,s11,s12,s13,vo,s15,s16,uN,uW⟩:=hdy;go_simp
  (try simp only[Act.put,eu,dY,qzs,qzl])
  refine oK 17 (.pointer (some ⟨C.wb,11,none⟩)) ?_ ?_
  .intro wz hSw;have hdy:=jZ.out wz hSw;obtain⟨⟨s1,s2,s3,s4,s5⟩,s6,s7,s8,s9,s10,s11,s12,s13,vo,s15,s16,uN,uW⟩:=hdy;go_simp
  (try simp only[Act.put,eu,dY,qzs,qzl])
  refine oK 18 (.map (some C.mb)) ?_ ?_
  .intro wz hSw;have hdy:=jZ.out wz hSw;obtain⟨⟨s1,s2,s3,s4,s5⟩,s6,s7,s8,s9,s10,s11,s12,s13,vo,s15,s16,uN,uW⟩:=hdy;go_simp
  (try simp only[Act.put,eu,dY,qzs,qzl])
  refine oK 19 (.agg #[.string ⟨s.lr.toArray⟩]) ?_ ?_
  .intro wz hSw;have hdy:=jZ.out wz hSw;obtain⟨⟨s1,s2,s3,s4,s5⟩,s6,s7,s8,s9,s10,s11,s12,s13,vo,s15,s16,uN,uW⟩:=hdy;go_simp
  (try simp only[Act.put,eu,dY,qzs,qzl])
  refine oK 20 (.string ⟨s.lr.toArray⟩) ?_ ?_
  .intro wz hSw;have hdy:=jZ.out wz hSw;obtain⟨⟨s1,s2,s3,s4,s5⟩,s6,s7,s8,s9,s10,s11,s12,s13,vo,s15,s16,uN,uW⟩:=hdy;go_simp
  (try simp only[Act.put,eu,dY,qzs,qzl])
  refine wpAnyH_ready (rs:=[21,26]) (by kernel_rfl) (by simp) ?_;refine AllReadyH.cons (o:={dst:=some 32,op:=Op.call {callee:=Callee.value (Operand.func 152),args:=#[Operand.tmp 11,Operand.tmp 15,Operand.tmp 19,Operand.tmp 25,Operand.tmp 31],argTypes:=#[74,82,82,9,9]},type:=154,pos:=_,after:=_,guard:=none}) rfl (fun K hK=>?_) ?_
  .skip
   go_simp
   (go_at_call 152;(refine(HAP.out w1.drew (Below.seq Ij.out.bJ ((Below.refl w1.heap.size w1).drew))).mono ?_);rintro e7 w7 ⟨rfl,mq⟩)
   have hd7:Below w1.heap.size w1 w7:=Below.seq ((Below.refl w1.heap.size w1).drew) mq
   (try go_wp2_with fail)
   refine hK.out _ _ hd7 (fun hH5=>?_);clear hK K
   (try simp only[Act.put,eu,dY,qzs,qzl])
   refine oK 22 (.tuple #[.agg (ru r1 none 0 0),.int .i64 r2,.int .i64 r3]) ?_ ?_
   .intro wz hSw;have hdy:=jZ.out wz hSw;obtain⟨⟨s1,s2,s3,s4,s5⟩,s6,s7,s8,s9,s10,s11,s12,s13,vo,s15,s16,uN,uW⟩:=hdy;go_simp
   (try simp only[Act.put,eu,dY,qzs,qzl])
   refine oK 23 (.agg (ru r1 none 0 0)) ?_ ?_
   .intro wz hSw;have hdy:=jZ.out wz hSw;obtain⟨⟨s1,s2,s3,s4,s5⟩,s6,s7,s8,s9,s10,s11,s12,s13,vo,s15,s16,uN,uW⟩:=hdy;go_simp
   (try simp only[Act.put,eu,dY,qzs,qzl])
   refine oK 24 (.int .i64 r2) ?_ ?_
   .intro wz hSw;have hdy:=jZ.out wz hSw;obtain⟨⟨s1,s2,s3,s4,s5⟩,s6,s7,s8,s9,s10,s11,s12,s13,vo,s15,s16,uN,uW⟩:=hdy;go_simp
   (try simp only[Act.put,eu,dY,qzs,qzl])
   refine oK 25 (.int .i64 r3) ?_ ?_
   .intro wz hSw;have hdy:=jZ.out wz hSw;obtain⟨⟨s1,s2,s3,s4,s5⟩,s6,s7,s8,s9,s10,s11,s12,s13,vo,s15,s16,uN,uW⟩:=hdy;go_simp
   (try simp only[Act.put,eu,dY,qzs,qzl])
   refine wpAnyH_ready (rs:=[26]) (by kernel_rfl) (by simp) ?_;refine AllReadyH.cons (o:={dst:=some 6,op:=Op.alloc 42,type:=0,pos:=_,after:=_,guard:=none}) rfl (fun K hK=>?_) AllReadyH.nil;go_simp;have OV:(w7.alloc (.cells fZ 42)).heap[w7.heap.size]? = some (.cells fZ 42):=JL;have hd8:Below w1.heap.size w1 (w7.alloc (.cells fZ 42)):=hd7.alloc hd7.size _;refine hK.out _ _ hd8 (fun hH1=>?_);clear hK K
   (try simp only[Act.put,eu,dY,qzs,qzl])
   refine wpAnyH_ready (rs:=[27]) (by kernel_rfl) (by simp) ?_;refine AllReadyH.cons (o:={dst:=none,op:=Op.store 42 (Operand.tmp 6) (Operand.tmp 33),type:=0,pos:=_,after:=_,guard:=none}) rfl (fun K hK=>?_) AllReadyH.nil;refine jS rfl 42 (.tmp 6) (.tmp 33) rfl w7.heap.size (by simp[Act.eval,Act.put]) (ru r1 none 0 0) (by simp[Act.eval,Act.put]) fZ 42 OV rfl (Ov.vD r1 none 0 0) (Ov.lq r1 none 0 0) ?_;have X3:Below w1.heap.size w1 (World.setRow (w7.alloc (.cells fZ 42)) w7.heap.size (ru r1 none 0 0)):=Below.setRow hd8 hd7.size _;refine hK.out _ _ X3 (fun hH8=>?_);clear hK K
   (try simp only[Act.put,eu,dY,qzs,qzl])
   refine wpAnyH_take (i:=28) (oi:={dst:=some 7,op:=Op.assign (Operand.tmp 34),type:=3,pos:=_,after:=_,guard:=none}) (v:=(.int .i64 r2)) rfl (by kernel_rfl) (by kernel_rfl) (by kernel_rfl) (fun _ _ _ h=>h) (Or.inl ⟨by rfl,?_⟩) (by assumption) ?_
   .intro wz hSw;have hdy:=jZ.out wz hSw;obtain⟨⟨s1,s2,s3,s4,s5⟩,s6,s7,s8,s9,s10,s11,s12,s13,vo,s15,s16,uN,uW⟩:=hdy;go_simp
   (try simp only[Act.put,eu,dY,qzs,qzl])
   refine wpAnyH_take (i:=29) (oi:={dst:=some 8,op:=Op.assign (Operand.tmp 35),type:=28,pos:=_,after:=_,guard:=none}) (v:=(.int .i64 r3)) rfl (by kernel_rfl) (by kernel_rfl) (by kernel_rfl) (fun _ _ _ h=>h) (Or.inl ⟨by rfl,?_⟩) (by assumption) ?_
   .intro wz hSw;have hdy:=jZ.out wz hSw;obtain⟨⟨s1,s2,s3,s4,s5⟩,s6,s7,s8,s9,s10,s11,s12,s13,vo,s15,s16,uN,uW⟩:=hdy;go_simp
   (try simp only[Act.put,eu,dY,qzs,qzl])
   refine wpAnyH_done (by kernel_rfl) ?_ _;go_wp2_with fail
   go_meet;exact⟨w7.heap.size,rfl,rfl,rfl,ah X3,ah hd7.size,ah (setRow_heap _ _ _ _ _ _ OV)⟩
  refine AllReadyH.cons (o:={dst:=some 6,op:=Op.alloc 42,type:=0,pos:=_,after:=_,guard:=none}) rfl (fun K hK=>?_) AllReadyH.nil;go_simp;refine hK.out _ _ (((Below.refl w1.heap.size w1).drew).alloc (aY _) _) (fun hH1=>?_);clear hK K
  (try simp only[Act.put,eu,dY,qzs,qzl])
  refine wpAnyH_ready (rs:=[21]) (by kernel_rfl) (by simp) ?_;refine AllReadyH.cons (o:={dst:=some 32,op:=Op.call {callee:=Callee.value (Operand.func 152),args:=#[Operand.tmp 11,Operand.tmp 15,Operand.tmp 19,Operand.tmp 25,Operand.tmp 31],argTypes:=#[74,82,82,9,9]},type:=154,pos:=_,after:=_,guard:=none}) rfl (fun K hK=>?_) AllReadyH.nil;go_simp
  (go_at_call 152;(refine(HAP.out (w1.drew.alloc _) (Below.seq Ij.out.bJ (((Below.refl w1.heap.size w1).drew).alloc (aY _) _))).mono ?_);rintro e7 w7 ⟨rfl,mq⟩)
  have hd7:Below w1.heap.size w1 w7:=Below.seq (((Below.refl w1.heap.size w1).drew).alloc (aY _) _) mq;have OV:w7.heap[w1.heap.size]? = some (.cells fZ 42):=by rw[mq.block _ (by simp)];exact JL
  (try go_wp2_with fail)
  refine hK.out _ _ hd7 (fun hH5=>?_);clear hK K
  (try simp only[Act.put,eu,dY,qzs,qzl])
  refine wpAnyH_take (i:=22) (oi:={dst:=some 10,op:=Op.move (Operand.tmp 32),type:=154,pos:=_,after:=_,guard:=none}) (v:=(.tuple #[.agg (ru r1 none 0 0),.int .i64 r2,.int .i64 r3])) rfl (by kernel_rfl) (by kernel_rfl) (by kernel_rfl) (fun _ _ _ h=>h) (Or.inl ⟨by rfl,?_⟩) (by assumption) ?_
  .intro wz hSw;have hdy:=jZ.out wz hSw;obtain⟨⟨s1,s2,s3,s4,s5⟩,s6,s7,s8,s9,s10,s11,s12,s13,vo,s15,s16,uN,uW⟩:=hdy;go_simp
  (try simp only[Act.put,eu,dY,qzs,qzl])
  refine wpAnyH_take (i:=23) (oi:={dst:=some 33,op:=Op.extract (Operand.tmp 10) 0,type:=42,pos:=_,after:=_,guard:=none}) (v:=(.agg (ru r1 none 0 0))) rfl (by kernel_rfl) (by kernel_rfl) (by kernel_rfl) (fun _ _ _ h=>h) (Or.inl ⟨by rfl,?_⟩) (by assumption) ?_
  .intro wz hSw;have hdy:=jZ.out wz hSw;obtain⟨⟨s1,s2,s3,s4,s5⟩,s6,s7,s8,s9,s10,s11,s12,s13,vo,s15,s16,uN,uW⟩:=hdy;go_simp
  (try simp only[Act.put,eu,dY,qzs,qzl])
  refine wpAnyH_take (i:=24) (oi:={dst:=some 34,op:=Op.extract (Operand.tmp 10) 1,type:=3,pos:=_,after:=_,guard:=none}) (v:=(.int .i64 r2)) rfl (by kernel_rfl) (by kernel_rfl) (by kernel_rfl) (fun _ _ _ h=>h) (Or.inl ⟨by rfl,?_⟩) (by assumption) ?_
  .intro wz hSw;have hdy:=jZ.out wz hSw;obtain⟨⟨s1,s2,s3,s4,s5⟩,s6,s7,s8,s9,s10,s11,s12,s13,vo,s15,s16,uN,uW⟩:=hdy;go_simp
  (try simp only[Act.put,eu,dY,qzs,qzl])
  refine wpAnyH_take (i:=25) (oi:={dst:=some 35,op:=Op.extract (Operand.tmp 10) 2,type:=28,pos:=_,after:=_,guard:=none}) (v:=(.int .i64 r3)) rfl (by kernel_rfl) (by kernel_rfl) (by kernel_rfl) (fun _ _ _ h=>h) (Or.inl ⟨by rfl,?_⟩) (by assumption) ?_
  .intro wz hSw;have hdy:=jZ.out wz hSw;obtain⟨⟨s1,s2,s3,s4,s5⟩,s6,s7,s8,s9,s10,s11,s12,s13,vo,s15,s16,uN,uW⟩:=hdy;go_simp
  (try simp only[Act.put,eu,dY,qzs,qzl])
  refine wpAnyH_ready (rs:=[27]) (by kernel_rfl) (by simp) ?_;refine AllReadyH.cons (o:={dst:=none,op:=Op.store 42 (Operand.tmp 6) (Operand.tmp 33),type:=0,pos:=_,after:=_,guard:=none}) rfl (fun K hK=>?_) AllReadyH.nil;refine jS rfl 42 (.tmp 6) (.tmp 33) rfl w1.heap.size (by simp[Act.eval,Act.put]) (ru r1 none 0 0) (by simp[Act.eval,Act.put]) fZ 42 OV rfl (Ov.vD r1 none 0 0) (Ov.lq r1 none 0 0) ?_;have X3:Below w1.heap.size w1 (World.setRow w7 w1.heap.size (ru r1 none 0 0)):=Below.setRow hd7 (aY _) _;refine hK.out _ _ X3 (fun hH8=>?_);clear hK K
  (try simp only[Act.put,eu,dY,qzs,qzl])
  refine wpAnyH_take (i:=28) (oi:={dst:=some 7,op:=Op.assign (Operand.tmp 34),type:=3,pos:=_,after:=_,guard:=none}) (v:=(.int .i64 r2)) rfl (by kernel_rfl) (by kernel_rfl) (by kernel_rfl) (fun _ _ _ h=>h) (Or.inl ⟨by rfl,?_⟩) (by assumption) ?_
  .intro wz hSw;have hdy:=jZ.out wz hSw;obtain⟨⟨s1,s2,s3,s4,s5⟩,s6,s7,s8,s9,s10,s11,s12,s13,vo,s15,s16,uN,uW⟩:=hdy;go_simp
  (try simp only[Act.put,eu,dY,qzs,qzl])
  refine wpAnyH_take (i:=29) (oi:={dst:=some 8,op:=Op.assign (Operand.tmp 35),type:=28,pos:=_,after:=_,guard:=none}) (v:=(.int .i64 r3)) rfl (by kernel_rfl) (by kernel_rfl) (by kernel_rfl) (fun _ _ _ h=>h) (Or.inl ⟨by rfl,?_⟩) (by assumption) ?_
  .intro wz hSw;have hdy:=jZ.out wz hSw;obtain⟨⟨s1,s2,s3,s4,s5⟩,s6,s7,s8,s9,s10,s11,s12,s13,vo,s15,s16,uN,uW⟩:=hdy;go_simp
  (try simp only[Act.put,eu,dY,qzs,qzl])
  refine wpAnyH_done (by kernel_rfl) ?_ _;go_wp2_with fail
  go_meet;exact⟨w1.heap.size,rfl,rfl,rfl,ah X3,ah (aY _),ah (setRow_heap _ _ _ _ _ _ OV)⟩
 case rest =>
  obtain⟨ge,rfl,rfl,rfl,Xr,agP,HGE⟩:=hcut;have UO:=ah (ML.out.below Xr.out);have HRX:=ah (aU Ij.out.rr Xr.out);have ahP:w.heap.size+1<ge:=by have:=Ij.out.lt;have:=agP.out;omega
  have hbw:Below w.heap.size w wc:=Below.seq Ij.out.bJ Xr.out;have HBW:=ah hbw;clear HAP jZ HD Ij ML Xr ahc hbw;have hent:Plain.entry C.data (o+512) h s=(if r3≠0 then .error r3 else if Plain.there C.data (o+512) r2=false then .error 70 else .ok ({r1 with data:=if r1.kind=1 then eH C.data (o+512) (o+512+r2.toNat) else[]},r2)):=by
   unfold Plain.entry;simp only[HRR.out]
  have hsz:=MH h s.glob s.loc s.ln s.lr hs0 hs1;rw[HRR.out] at hsz;simp only at hsz;generalize hR:Plain.entry C.data (o+512) h s=R at hent;have HR:=ah hR;clear hR;by_cases h3:r3=0
  .subst h3;rw[if_neg (by simp)] at hent;have ZP:=ah (sN C hC A o s r2 wc UO.out hsz.1 (by omega) ho)
   cases hth:Plain.there C.data (o+512) r2 with
   | false =>
    rw[if_pos hth] at hent;subst hent;have Mj:Hid (Calls qp0 150 #[.pointer (some ⟨C.wb,0,none⟩),.int .i64 r2] wc fun e w'=>e=.panicked (mK 70)/\Wk C A o s w'/\Below wc.heap.size wc w'):=ah (ZP.out.mono fun e w' h=>⟨by
     rcases h.1 with⟨h2,_⟩|⟨_,h2⟩
     .rw[hth] at h2;cases h2
     .exact h2,h.2⟩)
    clear ZP hth hsz;go_wp2_with (go_at_call 150;refine(Mj.out).mono ?_;rintro e w3 ⟨rfl,h3,h4⟩;have HW3:=ah h3;have HB3:=ah (Below.seq HBW.out h4);clear h3 h4)
    refine⟨rfl,?_⟩;unfold Tz;rw[HR.out];exact⟨⟨rfl,HW3.out⟩,gL.of HB3.out⟩
   | true =>
    rw[if_neg (by rw[hth];decide)] at hent;subst hent;obtain⟨N,rfl⟩:=Xq hsz.1;have hle:=Plain.xU (d:=C.data) (o:=o+512) (by rw[hC.dat.len];exact ho) hth;rw[hC.dat.len] at hle;have hle:o+512+N<=C.dn:=hle;have Mj:Hid (Calls qp0 150 #[.pointer (some ⟨C.wb,0,none⟩),.int .i64 (N:Int)] wc fun e w'=>∃ a',e=.returned (.slice a' N (C.dc-(o+512)))/\Bs w' a' N (C.dc-(o+512)) (eH C.data (o+512) (o+512+N))/\Wk C A o s w'/\Below wc.heap.size wc w'):=ah (ZP.out.mono fun e w' h=>by
     rcases h.1 with⟨_,h2⟩|⟨h2,_⟩
     .obtain⟨a',e1,e2⟩:=xk (hC.bs h.2.1.bJ) (o+512) (o+512+N) (by omega) hle;have e3:o+512+N-(o+512)=N:=by omega
      rw[e3] at e1 e2;exact⟨a',by rw[h2];exact congrArg _ e1,e2,h.2⟩
     .rw[hth] at h2;cases h2)
    have hNd:N<=140737488351232:=by have:=hC.dn;omega
    rw[show((N:Int)).toNat=N from by omega] at HR;generalize eH C.data (o+512) (o+512+N)=D at *
    clear ZP hth hsz hle;have ahV:=ah (agS);have hc0:wc.cell? ⟨ge,0,none⟩=some (.int .i64 r1.kind):=by rw[aG HGE.out];rfl
    by_cases hk1:r1.kind=1
    .rw[if_pos hk1] at HR;have hkb:(r1.kind==1)=true:=by rw[hk1];rfl
     clear hk1;go_upto_region 5 with(go_at_call 150;refine(Mj.out).mono ?_;rintro e w3 ⟨a',rfl,hbs,h3,h4⟩;have R5:=ah hbs;have HW3:=ah h3;have HBC:=ah h4;clear hbs h3 h4)
     have WM:=ah (aU HGE.out HBC.out);have agV:=ah (aU HRX.out HBC.out);have HB3:=ah (Below.seq HBW.out HBC.out);have ahO:ge<w3.heap.size:=(fT.1 WM.out).1;have aeQ:w3.cell? ⟨ge,0,none⟩=some (.int .i64 r1.kind):=by rw[aG WM.out];rfl
     have ho0:=World.ownsRow_lit (base:=w3.heap.size) (e:=5) (size:=1) w3 #[] 0 (aY _) (by decide) rfl;have HO0:=ah ho0;clear hc0 HBC Mj ho0;go_upto_region 7 with(at_builtin;refine nJ rfl _ _ 22 rfl w3.heap.size 5 _ 1 1 underlying22 V6 rfl (by decide) (by decide) rfl HO0.out rfl ((Keeps.alloc w3 _).bs R5.out) (kY D) (by omega) (by simp) ?_;intro a4 c4 w4 Rs hg4;have HO4:=ah Rs;have QF:=ah (below_app ((Below.refl w3.heap.size w3).alloc (aY _) (.cells #[] 5)) HO0.out hg4 (aY _) (by simp));have hx1:=aG (aU WM.out QF.out) 10;have hx2:=aS (aU WM.out QF.out) 10;clear Rs hg4)
     have UM:=ah (HW3.out.below QF.out);have acQ:=ah (aU WM.out QF.out);rw[lU] at HO4;have hgr:=aD w4 ge 10 (.slice a4 N c4);have qZ:=ah (UM.out.other acQ.out (by decide) (by decide) (by omega) hgr);have Ul:Hid ((w4.setCell ⟨ge,10,none⟩ (.slice a4 N c4)).heap[ge]? = some (.cells (sS ({r1 with data:=D},(a4,N,c4))) 42)):=ah (aO acQ.out (j:=10) (.slice a4 N c4));have EB:=ah (aZ (aU agV.out QF.out) hgr (fun e=>by have:=pQ e;omega));have YT:Hid (iw (w4.setCell ⟨ge,10,none⟩ (.slice a4 N c4)) C.w0.heap.size ({r1 with data:=D},(a4,N,c4))):=ah (aX (World.ownsRow.mono (by simpa using HO4.out) HW3.out.bJ.size) hgr (Or.inr (aN HO4.out acQ.out (by decide))));have HB5:Hid (gL C w (w4.setCell ⟨ge,10,none⟩ (.slice a4 N c4))):=ah ((gL.of (Below.seq HB3.out QF.out)).grow hgr (.inr (.inr (by omega))));clear hx1 hx2 hgr HO0;generalize w4.setCell ⟨ge,10,none⟩ (.slice a4 N c4)=w5 at *
     have RN:w5.cell? ⟨C.wb,9,none⟩=some (.slice A.la A.ln A.lc):=qZ.out.cell 9;have hf9:=aS qZ.out.row 9;have MP:=aO qZ.out.row (j:=9) (.slice none 0 0);have TA:(w5.setCell ⟨C.wb,9,none⟩ (.slice none 0 0)).cell? ⟨C.wb,10,none⟩=some (.int .i64 s.zk):=aG MP 10;have RJ:=aS MP 10;go_upto_region 8 with fail
     have UJ:=ah (qZ.out.O9 hC 0 (World.ownsRow_nil _ _ _ _:w5.ownsRow C.w0.heap.size 160 2 (.slice none 0 0) 0 (([]:List Pr).flatMap aR)) JQ.nil (U4 _) (by have:=hC.lim;unfold Plain.eT at this;have:=of_decide_eq_true this;omega));have ET:w5.grownBy ((w5.setCell ⟨C.wb,9,none⟩ (.slice none 0 0)).setCell ⟨C.wb,10,none⟩ (.int .i64 0)) (some C.wb):=(aD _ _ _ _).trans (aD _ _ _ _);have hne1:ge≠C.wb:=fun e=>by
      have h1:=Ul.out;rw[e,qZ.out.row] at h1;simp only[Ba,Obj.cells.injEq] at h1;exact absurd h1.2.1 (by decide)
     have hne2:w.heap.size+1≠C.wb:=fun e=>by
      have h1:=EB.out;rw[e,qZ.out.row] at h1;simp only[Ba,Obj.cells.injEq] at h1;exact absurd h1.2.1 (by decide)
     have WI:=ah (aZ Ul.out ET (fun e=>hne1 (pQ e)));have WV:=ah (aZ EB.out ET (fun e=>hne2 (pQ e)));have XC:Hid (iw _ C.w0.heap.size (({r1 with data:=D}:En),(a4,N,c4))):=ah (aX YT.out ET (Or.inr (aN YT.out qZ.out.row (by decide))));have HB6:=ah (HB5.out.grow ET (.inl rfl));generalize (w5.setCell ⟨C.wb,9,none⟩ (.slice none 0 0)).setCell ⟨C.wb,10,none⟩ (.int .i64 0)=w6 at *
     clear RN hf9 MP TA RJ ET;have Yf:w6.cell? ⟨C.wb,11,none⟩=some (.map (some C.mb)):=UJ.out.cell 11;go_upto_region 9 with(refine qU rfl _ 83 rfl 213 underlying83 rfl UJ.out.long ?_;intro w7 hm7 Lp;have JK:=ah (UJ.out.clear hC rfl rfl hm7 Lp);have ad5:=ah (aZ WI.out Lp (fun e=>Jz UJ.out.long WI.out (pQ e)));have Ey:=ah (aZ WV.out Lp (fun e=>Jz UJ.out.long WV.out (pQ e)));have Xj:Hid (iw w7 C.w0.heap.size (({r1 with data:=D}:En),(a4,N,c4))):=ah (aX XC.out Lp (Or.inr (fun e=>(Gr.Mp.yU UJ.out.long XC.out) e.symm)));have MX:=ah (HB6.out.grow Lp (.inr (.inl rfl)));clear hm7 Lp)
     have HRG:=ah (Ov.tV ad5.out);have qh:=ah (Ov.vD ({r1 with data:=D}:En) (a4,N,c4).1 (a4,N,c4).2.1 (a4,N,c4).2.2);have AP:=ah (Ov.lq ({r1 with data:=D}:En) (a4,N,c4).1 (a4,N,c4).2.1 (a4,N,c4).2.2);clear Yf;go_wp2_with (first|(refine cK rfl 42 _ rfl ge 0 rfl (sS (({r1 with data:=D}:En),(a4,N,c4))) _ HRG.out underlying42 rfl (by rw[U5];exact qh.out) ?_)|(refine wpList_store_row rfl 42 _ _ rfl (w.heap.size+1) rfl (sS (({r1 with data:=D}:En),(a4,N,c4))) rfl fZ 42 Ey.out rfl qh.out AP.out ?_))
     have acL:=Ip Ey.out (sS (({r1 with data:=D}:En),(a4,N,c4)));have Oe:=qD Ey.out (sS (({r1 with data:=D}:En),(a4,N,c4)));refine bodyPost_ret (results_cell_tmp rfl _ _ (w.heap.size+1) 42 (sS (({r1 with data:=D}:En),(a4,N,c4))) (0,0) _ _ rfl rfl acL underlying42 rfl qh.out) rfl ?_;unfold Tz;rw[HR.out];refine⟨⟨_,(a4,N,c4),rfl,JK.out.other Ey.out (by decide) (by decide) (by omega) Oe,?_⟩,?_⟩
     .exact aX Xj.out Oe (Or.inr (aN Xj.out Ey.out (by decide)))
     .exact MX.out.grow Oe (.inr (.inr (by omega)))
    .rw[if_neg hk1] at HR;have hkb:(r1.kind==1)=false:=by rw[beq_eq_false_iff_ne];exact hk1
     clear hk1;go_upto_region 5 with(go_at_call 150;refine(Mj.out).mono ?_;rintro e w5 ⟨a',rfl,hbs,h3,h4⟩;have qZ:=ah h3;have HBC:=ah h4;clear hbs h3 h4)
     have Ul:Hid (w5.heap[ge]? = some (.cells (sS ({r1 with data:=[]},(none,0,0))) 42)):=ah (aU HGE.out HBC.out);have EB:=ah (aU HRX.out HBC.out);have HB5:Hid (gL C w w5):=ah (gL.of (Below.seq HBW.out HBC.out));have YT:Hid (iw w5 C.w0.heap.size ({r1 with data:=[]},(none,0,0))):=ah (World.ownsRow_nil _ _ _ _);have aeQ:w5.cell? ⟨ge,0,none⟩=some (.int .i64 r1.kind):=by rw[aG Ul.out];rfl
     clear hc0 HBC Mj;go_upto_region 7 with fail
     clear aeQ;have RN:w5.cell? ⟨C.wb,9,none⟩=some (.slice A.la A.ln A.lc):=qZ.out.cell 9;have hf9:=aS qZ.out.row 9;have MP:=aO qZ.out.row (j:=9) (.slice none 0 0);have TA:(w5.setCell ⟨C.wb,9,none⟩ (.slice none 0 0)).cell? ⟨C.wb,10,none⟩=some (.int .i64 s.zk):=aG MP 10;have RJ:=aS MP 10;go_upto_region 8 with fail
     have UJ:=ah (qZ.out.O9 hC 0 (World.ownsRow_nil _ _ _ _:w5.ownsRow C.w0.heap.size 160 2 (.slice none 0 0) 0 (([]:List Pr).flatMap aR)) JQ.nil (U4 _) (by have:=hC.lim;unfold Plain.eT at this;have:=of_decide_eq_true this;omega));have ET:w5.grownBy ((w5.setCell ⟨C.wb,9,none⟩ (.slice none 0 0)).setCell ⟨C.wb,10,none⟩ (.int .i64 0)) (some C.wb):=(aD _ _ _ _).trans (aD _ _ _ _);have hne1:ge≠C.wb:=fun e=>by
      have h1:=Ul.out;rw[e,qZ.out.row] at h1;simp only[Ba,Obj.cells.injEq] at h1;exact absurd h1.2.1 (by decide)
     have hne2:w.heap.size+1≠C.wb:=fun e=>by
      have h1:=EB.out;rw[e,qZ.out.row] at h1;simp only[Ba,Obj.cells.injEq] at h1;exact absurd h1.2.1 (by decide)
     have WI:=ah (aZ Ul.out ET (fun e=>hne1 (pQ e)));have WV:=ah (aZ EB.out ET (fun e=>hne2 (pQ e)));have XC:Hid (iw _ C.w0.heap.size (({r1 with data:=[]}:En),((none,0,0):Option Addr×Nat×Nat))):=ah (aX YT.out ET (Or.inr (aN YT.out qZ.out.row (by decide))));have HB6:=ah (HB5.out.grow ET (.inl rfl));generalize (w5.setCell ⟨C.wb,9,none⟩ (.slice none 0 0)).setCell ⟨C.wb,10,none⟩ (.int .i64 0)=w6 at *
     clear RN hf9 MP TA RJ ET;have Yf:w6.cell? ⟨C.wb,11,none⟩=some (.map (some C.mb)):=UJ.out.cell 11;go_upto_region 9 with(refine qU rfl _ 83 rfl 213 underlying83 rfl UJ.out.long ?_;intro w7 hm7 Lp;have JK:=ah (UJ.out.clear hC rfl rfl hm7 Lp);have ad5:=ah (aZ WI.out Lp (fun e=>Jz UJ.out.long WI.out (pQ e)));have Ey:=ah (aZ WV.out Lp (fun e=>Jz UJ.out.long WV.out (pQ e)));have Xj:Hid (iw w7 C.w0.heap.size (({r1 with data:=[]}:En),((none,0,0):Option Addr×Nat×Nat))):=ah (aX XC.out Lp (Or.inr (fun e=>(Gr.Mp.yU UJ.out.long XC.out) e.symm)));have MX:=ah (HB6.out.grow Lp (.inr (.inl rfl)));clear hm7 Lp)
     have HRG:=ah (Ov.tV ad5.out);have qh:=ah (Ov.vD ({r1 with data:=[]}:En) ((none,0,0):Option Addr×Nat×Nat).1 ((none,0,0):Option Addr×Nat×Nat).2.1 ((none,0,0):Option Addr×Nat×Nat).2.2);have AP:=ah (Ov.lq ({r1 with data:=[]}:En) ((none,0,0):Option Addr×Nat×Nat).1 ((none,0,0):Option Addr×Nat×Nat).2.1 ((none,0,0):Option Addr×Nat×Nat).2.2);clear Yf;go_wp2_with (first|(refine cK rfl 42 _ rfl ge 0 rfl (sS (({r1 with data:=[]}:En),((none,0,0):Option Addr×Nat×Nat))) _ HRG.out underlying42 rfl (by rw[U5];exact qh.out) ?_)|(refine wpList_store_row rfl 42 _ _ rfl (w.heap.size+1) rfl (sS (({r1 with data:=[]}:En),((none,0,0):Option Addr×Nat×Nat))) rfl fZ 42 Ey.out rfl qh.out AP.out ?_))
     have acL:=Ip Ey.out (sS (({r1 with data:=[]}:En),((none,0,0):Option Addr×Nat×Nat)));have Oe:=qD Ey.out (sS (({r1 with data:=[]}:En),((none,0,0):Option Addr×Nat×Nat)));refine bodyPost_ret (results_cell_tmp rfl _ _ (w.heap.size+1) 42 (sS (({r1 with data:=[]}:En),((none,0,0):Option Addr×Nat×Nat))) (0,0) _ _ rfl rfl acL underlying42 rfl qh.out) rfl ?_;unfold Tz;rw[HR.out];refine⟨⟨_,((none,0,0):Option Addr×Nat×Nat),rfl,JK.out.other Ey.out (by decide) (by decide) (by omega) Oe,?_⟩,?_⟩
     .exact aX Xj.out Oe (Or.inr (aN Xj.out Ey.out (by decide)))
     .exact MX.out.grow Oe (.inr (.inr (by omega)))
  .rw[if_pos h3] at hent;subst hent;have h3b:(r3 != 0)=true:=by rw[bne_iff_ne];exact h3
   clear h3;go_wp2_with (go_at_call 112;refine(dF _ _ _).mono ?_;rintro e w5 ⟨rfl,rfl⟩)
   refine⟨rfl,?_⟩;unfold Tz;rw[HR.out];exact⟨⟨rfl,UO.out⟩,gL.of HBW.out⟩
end St
end
section
open Go.Maps (Keyed)
namespace St
open Gr (aZ aD aN aO aX aG aS aU)
def AL(C:Cn)(A:Ad)(o:Nat)(h:Hd)(s:bW)(w:World)(e:Ending)(w':World):Prop :=(match Plain.extend C.data C.lim (o+512) h s with
  | .error c=>e=.panicked (mK c)/\Wk C A o s w'
  | .ok s'=>e=.returned (.tuple #[])/\∃ A',Wk C A' o s' w')/\gL C w w'
theorem ZU(l:List UInt8)(p:Pr)(n:Nat)(h:Plain.one l=some (p,n)):p.1.length<=l.length/\p.2.length<=l.length:=by
 unfold Plain.one at h;split at h
 .unfold nY at h;split at h
  .generalize hu:((l.take (Plain.decimal (bn l)).1.toNat).drop ((bn l).length+1)).dropLast=u at h;have hul:u.length<=l.length:=by rw[<-hu,List.length_dropLast,zW,zQ];omega
   unfold tK at h;split at h
   .simp only[MK,Ba,MV] at h;rw[<-h.1];have:=(List.takeWhile_sublist (fun x:UInt8=>x != 61) (l:=u)).length_le;simp only[zW];omega
   .cases h
  .cases h
 .cases h
theorem SV:∀ (f:Nat)(l:List UInt8)(ps:List Pr),rM f l=some ps->ps.length<=l.length/\∀ p∈ps,p.1.length<=l.length/\p.2.length<=l.length:=by
 intro f
 induction f with
 | zero =>
  intro l ps h;unfold rM at h;split at h
  .cases h;exact⟨by simp,fun p hp=>by cases hp⟩
  .cases h
 | succ f ih =>
  intro l ps h;unfold rM at h;split at h
  .cases h;exact⟨by simp,fun p hp=>by cases hp⟩
  .split at h
   .cases h
   .rename_i p n ho
    have hb:=tu l p n ho;have hl:=ZU l p n ho
    cases hr:rM f (l.drop n) with
    | none=>rw[hr] at h;cases h
    | some qs =>
     rw[hr] at h;simp only[MK,Ba] at h;subst h;obtain⟨h1,h2⟩:=ih _ _ hr;rw[zW] at h1 h2;refine⟨by rw[oH];omega,fun q hq=>?_⟩;rcases rD.1 hq with rfl|hq
     .exact hl
     .have:=h2 q hq;omega
theorem Xa(l:List UInt8)(ps:List Pr)(h:Plain.read l=some ps)(hl:l.length<=1048576):JQ ps:=by
 obtain⟨h1,h2⟩:=SV _ l ps h;exact⟨by omega,fun p hp=>by have:=h2 p hp;omega⟩
theorem K8{d:List UInt8}{lim:kG}{o:Nat}{n:Int}{ps:List Pr}(h:Plain.recs d lim o n=.ok ps):n<=lim.iP:=by
 unfold Plain.recs at h;split at h
 .cases h
 .omega
theorem G7{d:List UInt8}{lim:kG}{o:Nat}{n:Int}{ps:List Pr}(h:Plain.recs d lim o n=.ok ps)(hl:lim.iP<=1048576):JQ ps:=by
 have hp:=K8 h;unfold Plain.recs at h;split at h
 .cases h
 .split at h
  .cases h
  .split at h
   .cases h
   .split at h
    .cases h
    .rename_i hr
     cases h
     refine Xa _ _ hr ?_;unfold eH;rw[zW,zQ];omega
theorem EJ(s:bW)(ty:UInt8)(h:ty=76\/ty=75):gY s ty=if Plain.oJ s ty=[] then none else some (lgV (Plain.oJ s ty)):=by
 unfold gY Plain.oJ;rcases h with rfl|rfl
 .simp
 .simp
theorem look_ok{C:Cn}{A:Ad}{o:Nat}{s:bW}{wr:World}(h:Wk C A o s wr)(ty:UInt8)(ht:ty=76\/ty=75):(Instr.lookup 83 (.map (some C.mb)) (.int .u8 (ty.toNat:Int)) true).run qp0 wr=.ok (.tuple #[.agg #[.string ⟨(Plain.oJ s ty).toArray⟩],.bool (!(Plain.oJ s ty).isEmpty)]) wr:=by
 obtain⟨D,h1,h2,h3⟩:=h.long;obtain⟨v,ps,hrun,hv⟩:=h1.look_ok lawB (t:=83) underlying83 (Ec _) (zd:=.held (.agg #[.string ⟨#[]⟩])) (zp:=[]) rfl (Qm ty);obtain rfl:=Gr.Mp.value h3 ty hv;rw[(h3 ty).1,EJ s ty ht] at hrun;rw[hrun]
 cases Plain.oJ s ty <;> simp[lgV]
theorem Wk.dD{C:Cn}{A:Ad}{o:Nat}{s:bW}{w w':World}(hC:C.Ok)(h:Wk C A o s w)(ty:UInt8)(ht:ty=76\/ty=75)(t:List UInt8)(h0:t≠[])(hl:(t.length:Int)<=C.lim.name)(hlo:Plain.oJ s ty=[])(hm:Gr.Mp zG qp0 5 w' C.mb (if (gY s ty).isSome then JM s else JM s+1) (Gr.upd (gY s) ty (lgV t)))(hg:w.grownBy w' (some C.mb)):Wk C A o (Plain.dD s ty t) w':=by
 have hb:Below C.w0.heap.size w w':=Gr.nX hg hC.mb h.bJ.size;have hown:∀ {a:Option Addr}{n c:Nat}{l:List Pr},w.ownsRow C.w0.heap.size 160 2 (.slice a n c) n (l.flatMap aR)->w'.ownsRow C.w0.heap.size 160 2 (.slice a n c) n (l.flatMap aR):=fun {a n c l} ho=>aX ho hg (Or.inr (fun e=>(Gr.Mp.yU h.long ho) e.symm))
 have hrow:=aZ h.row hg (fun e=>hC.ne (pQ e));have hsz:(if (gY s ty).isSome then JM s else JM s+1)=JM (Plain.dD s ty t):=by
  rw[EJ s ty ht,hlo];unfold JM Plain.dD;unfold Plain.oJ at hlo;rcases ht with rfl|rfl
  .simp only[if_true] at hlo ⊢;simp[hlo,h0];omega
  .rw[if_neg (by decide)] at hlo ⊢;simp[hlo,h0]
 have hf:Gr.upd (gY s) ty (lgV t)=gY (Plain.dD s ty t):=by
  funext x;unfold Gr.upd gY Plain.dD;rcases ht with rfl|rfl
  .by_cases hx:x=76
   .subst hx;simp[h0]
   .simp[hx]
  .by_cases hx:x=75
   .subst hx;simp[h0]
   .simp[hx]
 rw[hsz,hf] at hm;have e1:(Plain.dD s ty t).glob=s.glob:=by unfold Plain.dD;split <;> rfl
 have e2:(Plain.dD s ty t).loc=s.loc:=by unfold Plain.dD;split <;> rfl
 have e3:(Plain.dD s ty t).zk=s.zk:=by unfold Plain.dD;split <;> rfl
 have e4:(Plain.dD s ty t).held=s.held:=by unfold Plain.dD;split <;> rfl
 refine⟨h.bJ.trans hb,?_,by rw[e1];exact hown h.glob,by rw[e2];exact hown h.loc,hm,by rw[e1];exact h.gb,by rw[e2];exact h.lb,?_,h.Zv⟩
 .have:VH C A o (Plain.dD s ty t) 0 0=VH C A o s 0 0:=by unfold VH;rw[e3,e4]
  rw[this];exact hrow
 .obtain⟨f1,f2,f3,f4,f5,f6,f7⟩:=h.fit;refine⟨by rw[e1];exact f1,by rw[e3];exact f2,by rw[e3];exact f3,?_,?_,by rw[e4];exact f6,by rw[e4];exact f7⟩
  .unfold Plain.dD;split
   .exact hl
   .exact f4
  .unfold Plain.dD;split
   .exact f5
   .exact hl
def vH(s:bW)(left:Lit->Bool):Int:=(if left (zG 76)=true then 0 else(s.ln.length:Int))+(if left (zG 75)=true then 0 else(s.lr.length:Int))
theorem aaE(s:bW)(h1:s.ln.length<=4096)(h2:s.lr.length<=4096)(left:Lit->Bool):0<=vH s left/\vH s left<=8192:=by
 unfold vH;split <;> split <;> omega
theorem TF(s:bW)(D:DataW Value)(h:Gr.Reads zG D (gY s)):vH s (Maps.has D)=0:=by
 unfold vH;rw[(h 76).1,(h 75).1];unfold gY
 cases s.ln <;> cases s.lr <;> simp
theorem ZF:(zG 76).sameKey (zG 75)=false/\(zG 75).sameKey (zG 76)=false/\(zG 76).sameKey (zG 76)=true/\(zG 75).sameKey (zG 75)=true:=by decide
theorem round_facts(s:bW)(D:DataW Value)(h:Gr.Reads zG D (gY s))(x:Int)(c:Value)(kl:Lit)(y:DataW Value)(ps:List MemPlace)(hkey:keyOf qp0 5 (.int .u8 x)=some kl)(hh:Maps.has D kl=true)(hv:Gr.held c=some (y,ps))(hat:∀ zd,D.atKey kl zd=y)(left:Lit->Bool)(hl:left kl=true):∃ txt:List UInt8,c=.agg #[.string ⟨txt.toArray⟩]/\vH s (fun z=>left z&&!z.sameKey kl)=vH s left+txt.length:=by
 obtain⟨x',ex,rfl,hw⟩:=Maps.keyOf_int_inv underlying5 hkey
 cases ex
 have hx:0<=x/\x<=255:=by
  simp[Lit.wf,IntKind.min,IntKind.max,IntKind.signed,IntKind.bits] at hw;omega
 obtain⟨b,rfl⟩:∃ b:UInt8,x=(b.toNat:Int):=⟨UInt8.ofNat x.toNat,by simp;omega⟩
 change Maps.has D (zG b)=true at hh
 change ∀ zd,D.atKey (zG b) zd=y at hat
 change left (zG b)=true at hl
 change ∃ txt:List UInt8,c=.agg #[.string ⟨txt.toArray⟩]/\vH s (fun z=>left z&&!z.sameKey (zG b))=vH s left+txt.length
 simp only[Gr.held,Ba,MV] at hv;obtain⟨rfl,rfl⟩:=hv;rw[(h b).1] at hh
 cases hf:gY s b with
 | none=>rw[hf] at hh;cases hh
 | some v =>
  have h2:=(h b).2 v hf (.held c);rw[hat] at h2;have hcv:c=v:=DataW.held.inj h2;subst hcv;unfold gY at hf;obtain⟨k1,k2,k3,k4⟩:=ZF;by_cases e1:b=76
  .subst e1;rw[if_pos rfl] at hf;split at hf
   .cases hf
   .cases hf
    refine⟨s.ln,rfl,?_⟩;unfold vH;simp only[hl,k2,k3,qb1,Bool.and_false,qb9,Bool.and_true,if_true,jI,if_false];omega
  .rw[if_neg e1] at hf;by_cases e2:b=75
   .subst e2;rw[if_pos rfl] at hf;split at hf
    .cases hf
    .cases hf
     refine⟨s.lr,rfl,?_⟩;unfold vH;simp only[hl,k1,k4,qb1,Bool.and_false,qb9,Bool.and_true,if_true,jI,if_false];omega
   .rw[if_neg e2] at hf;cases hf
theorem Wk.setH{C:Cn}{A:Ad}{o:Nat}{s:bW}{w:World}(hC:C.Ok)(h:Wk C A o s w):Wk C A o (Plain.GA s) (w.setCell ⟨C.wb,7,none⟩ (.int .i64 (max s.held (Plain.qN s)))):=by
 obtain⟨h1,h2,h3,h4,_⟩:=h.set hC 7 (.int .i64 (max s.held (Plain.qN s)))
 obtain⟨f1,f2,f3,f4,f5,f6,f7⟩:=h.fit;exact⟨h1,h2,h3 h.glob,h3 h.loc,h4,h.gb,h.lb,Plain.nQ f6 f7 f1 f2 f3 f4 f5,h.Zv⟩
theorem Ns{w w':World}(h:w.grownBy w' none):Below w.heap.size w w':=⟨h.os,h.tape,h.output,h.size,fun i hi=>h.block i hi (by simp)⟩
theorem Nv(C:Cn)(hC:C.Ok)(A:Ad)(o:Nat)(h:Hd)(s:bW)(w:World)(hw:Wk C A o s w)(ho:o+512<=C.dn)(hs0:0<=h.size)(hs1:h.size<=9223372036854775807)(hty:Plain.lH h.ty=true):Calls qp0 115 #[.pointer (some ⟨C.wb,0,none⟩),.agg (dQ h)] w (AL C A o h s w):=by
 have HO:=ah (jP h);have HI:=ah (mo h);have HW:=ah hw;have hbase:=hw.bJ.size;have hb1:Below w.heap.size w (w.alloc (.cells (dQ h) 74)):=(Below.refl _ _).alloc (aY _) _;have HB1:=ah hb1;have hr1:(w.alloc (.cells (dQ h) 74)).heap[w.heap.size]? = some (.cells (dQ h) 74):=JL;have HR1:=ah hr1;clear hb1 hr1 hw;go_enter func115,ntmps115;go_upto_region 1 with fail
 generalize w.alloc (.cells (dQ h) 74)=w1 at *
 have h7:w1.cell? ⟨w.heap.size,7,none⟩=some (.int .u8 (h.ty.toNat:Int)):=by rw[aG HR1.out];rfl
 have h5:w1.cell? ⟨w.heap.size,5,none⟩=some (.int .i64 h.size):=by rw[aG HR1.out];rfl
 have H5:=ah h5;have HW1:=ah (HW.out.below HB1.out);go_upto_block 0 with fail;clear h5;go_cut [4,5,6] from 12 to 95 (fun _ _ _ wx=>∃ (A1:Ad)(s1:bW),Hid (Plain.extend C.data C.lim (o+512) h s=.ok (Plain.GA s1))/\Hid (s1.held=s.held)/\Hid (Wk C A1 o s1 wx)/\Hid (gL C w wx))
 case first =>
  have hcs:h.ty=120\/(¬ h.ty=120/\h.ty=103)\/(¬ h.ty=120/\¬ h.ty=103/\(h.ty=76\/h.ty=75)):=by
   unfold Plain.lH at hty;have:=of_decide_eq_true hty;by_cases e1:h.ty=120
   .exact .inl e1
   .by_cases e2:h.ty=103
    .exact .inr (.inl ⟨e1,e2⟩)
    .refine .inr (.inr ⟨e1,e2,?_⟩);rcases this with e|e|e|e
     .exact absurd e e1
     .exact absurd e e2
     .exact .inl e
     .exact .inr e
  rcases hcs with e1|⟨e1,e2⟩|⟨e1,e2,e3⟩
  .
   have hx:Plain.extend C.data C.lim (o+512) h s=Plain.Rt C.data C.lim (o+512) h s:=by unfold Plain.extend;rw[if_pos e1]
   have hb:(((h.ty.toNat:Nat):Int)==120)=true:=by rw[e1];rfl
   have ac2:w1.cell? ⟨C.wb,10,none⟩=some (.int .i64 s.zk):=HW1.out.cell 10;generalize hR:Plain.extend C.data C.lim (o+512) h s=R at hx;have HR:=ah hR;unfold Plain.Rt at hx;clear e1 hR hty;by_cases hl:0<s.zk
   .rw[if_pos hl] at hx;subst hx;go_wp2_with (go_at_call 112;refine(dF _ _ _).mono ?_;rintro e w5 ⟨rfl,rfl⟩)
    refine⟨rfl,?_⟩;unfold AL;rw[HR.out];exact⟨⟨rfl,HW1.out⟩,gL.of HB1.out⟩
   .rw[if_neg hl] at hx;have HPR:=ah (fun (wr:World)(hb:Below w1.heap.size w1 wr)=>FY C hC A o s h.size wr (HW1.out.below hb) hs0 (by omega) ho);generalize hrc:Plain.recs C.data C.lim (o+512) h.size=rc at hx;have HRC:=ah hrc;clear hrc
    cases rc with
    | error c =>
     simp only at hx;subst hx;have Lb:Hid (∀ wr,Below w1.heap.size w1 wr->Calls qp0 148 #[.pointer (some ⟨C.wb,0,none⟩),.int .i64 h.size] wr fun e w'=>e=.panicked (mK c)/\Wk C A o s w'/\Below wr.heap.size wr w'):=ah (fun wr hb=>(HPR.out wr hb).mono fun e w' h=>by
      unfold oP at h;rw[HRC.out] at h;exact h)
     clear HPR;go_upto_region 14 with fail
     refine wp_region_held_drew (S:=fun w':World=>w'.cell? ⟨w.heap.size,5,none⟩=some (.int .i64 h.size)) (by kernel_rfl) H5.out (fun hHeld=>?_);refine oK 0 (.pointer (some ⟨C.wb,0,none⟩)) ?_ ?_
     .intro wz hSw
      (try dsimp only at hSw)
      go_simp
     (try simp only[Act.put,eu,dY,qzs,qzl])
     refine oK 1 (.pointer (some ⟨C.wb,0,none⟩)) ?_ ?_
     .intro wz hSw
      (try dsimp only at hSw)
      go_simp
     (try simp only[Act.put,eu,dY,qzs,qzl])
     refine oK 2 (.pointer (some ⟨C.wb,0,none⟩)) ?_ ?_
     .intro wz hSw
      (try dsimp only at hSw)
      go_simp
     (try simp only[Act.put,eu,dY,qzs,qzl])
     refine oK 3 (.pointer (some ⟨w.heap.size,5,none⟩)) ?_ ?_
     .intro wz hSw
      (try dsimp only at hSw)
      go_simp
     (try simp only[Act.put,eu,dY,qzs,qzl])
     refine oK 4 (.int .i64 h.size) ?_ ?_
     .intro wz hSw
      (try dsimp only at hSw)
      go_simp
     (try simp only[Act.put,eu,dY,qzs,qzl])
     refine oK 6 (.pointer (some ⟨w.heap.size,5,none⟩)) ?_ ?_
     .intro wz hSw
      (try dsimp only at hSw)
      go_simp
     (try simp only[Act.put,eu,dY,qzs,qzl])
     refine oK 7 (.int .i64 h.size) ?_ ?_
     .intro wz hSw
      (try dsimp only at hSw)
      go_simp
     (try simp only[Act.put,eu,dY,qzs,qzl])
     refine wpAnyH_ready (rs:=[5]) (by kernel_rfl) (by simp) ?_;refine AllReadyH.cons (o:=_) rfl (fun K hK=>?_) AllReadyH.nil;go_simp
     (go_at_call 148;(refine(Lb.out _ ((Below.refl w1.heap.size w1).drew)).mono ?_);rintro e7 w7 ⟨rfl,Pv,mq⟩)
     have hd7:=Below.seq ((Below.refl w1.heap.size w1).drew) mq
     (try go_wp2_with fail)
     exact⟨rfl,by unfold AL;rw[HR.out];exact⟨⟨rfl,Pv⟩,(gL.of HB1.out).trans (gL.of hd7)⟩⟩
    | ok ps =>
     simp only at hx;subst hx;have Lb:Hid (∀ wr,Below w1.heap.size w1 wr->Calls qp0 148 #[.pointer (some ⟨C.wb,0,none⟩),.int .i64 h.size] wr fun e w'=>∃ a m c,e=.returned (.slice a m c)/\w'.ownsRow C.w0.heap.size 160 2 (.slice a m c) m (ps.flatMap aR)/\Wk C A o s w'/\Below wr.heap.size wr w'):=ah (fun wr hb=>(HPR.out wr hb).mono fun e w' h=>by
      unfold oP at h;rw[HRC.out] at h;obtain⟨⟨a,m,c,h1,h2⟩,h3⟩:=h;exact⟨a,m,c,h1,h2,h3⟩)
     clear HPR;have hlim:C.lim.iP<=1048576:=by have:=hC.lim;unfold Plain.eT at this;have:=of_decide_eq_true this;omega
     have af9:w.heap.size≠C.wb:=fun e=>by have h1:=(fT.1 HW.out.row).1;omega
     go_upto_region 14 with fail
     refine wp_region_held_drew (S:=fun w':World=>w'.cell? ⟨w.heap.size,5,none⟩=some (.int .i64 h.size)) (by kernel_rfl) H5.out (fun hHeld=>?_);refine oK 0 (.pointer (some ⟨C.wb,0,none⟩)) ?_ ?_
     .intro wz hSw
      (try dsimp only at hSw)
      go_simp
     (try simp only[Act.put,eu,dY,qzs,qzl])
     refine oK 1 (.pointer (some ⟨C.wb,0,none⟩)) ?_ ?_
     .intro wz hSw
      (try dsimp only at hSw)
      go_simp
     (try simp only[Act.put,eu,dY,qzs,qzl])
     refine oK 2 (.pointer (some ⟨C.wb,0,none⟩)) ?_ ?_
     .intro wz hSw
      (try dsimp only at hSw)
      go_simp
     (try simp only[Act.put,eu,dY,qzs,qzl])
     refine oK 3 (.pointer (some ⟨w.heap.size,5,none⟩)) ?_ ?_
     .intro wz hSw
      (try dsimp only at hSw)
      go_simp
     (try simp only[Act.put,eu,dY,qzs,qzl])
     refine oK 4 (.int .i64 h.size) ?_ ?_
     .intro wz hSw
      (try dsimp only at hSw)
      go_simp
     (try simp only[Act.put,eu,dY,qzs,qzl])
     refine oK 6 (.pointer (some ⟨w.heap.size,5,none⟩)) ?_ ?_
     .intro wz hSw
      (try dsimp only at hSw)
      go_simp
     (try simp only[Act.put,eu,dY,qzs,qzl])
     refine oK 7 (.int .i64 h.size) ?_ ?_
     .intro wz hSw
      (try dsimp only at hSw)
      go_simp
     (try simp only[Act.put,eu,dY,qzs,qzl])
     refine wpAnyH_ready (rs:=[5]) (by kernel_rfl) (by simp) ?_;refine AllReadyH.cons (o:=_) rfl (fun K hK=>?_) AllReadyH.nil;go_simp
     (go_at_call 148;(refine(Lb.out _ ((Below.refl w1.heap.size w1).drew)).mono ?_);rintro e7 w7 ⟨a7,n7,c7,rfl,Pd,Pv,mq⟩)
     have hd7:=Below.seq ((Below.refl w1.heap.size w1).drew) mq;have h57:=Below.keeps hd7 _ _ H5.out;have RN:w7.cell? ⟨C.wb,9,none⟩=some (.slice A.la A.ln A.lc):=Pv.cell 9;have hf9:=aS Pv.row 9;have MP:=aO Pv.row (j:=9) (.slice a7 n7 c7);have TA:(w7.setCell ⟨C.wb,9,none⟩ (.slice a7 n7 c7)).cell? ⟨C.wb,10,none⟩=some (.int .i64 s.zk):=aG MP 10;have RJ:=aS MP 10;have h58:(w7.setCell ⟨C.wb,9,none⟩ (.slice a7 n7 c7)).cell? ⟨w.heap.size,5,none⟩=some (.int .i64 h.size):=(aD w7 C.wb 9 (.slice a7 n7 c7)).cell h57 (fun e=>af9 (pQ e));have h59:=(aD (w7.setCell ⟨C.wb,9,none⟩ (.slice a7 n7 c7)) C.wb 10 (.int .i64 h.size)).cell h58 (fun e=>af9 (pQ e))
     (try go_wp2_with fail)
     refine hK.out _ _ h57 (fun hH5=>?_);clear hK K
     (try simp only[Act.put,eu,dY,qzs,qzl])
     refine oK 8 (.pointer (some ⟨C.wb,0,none⟩)) ?_ ?_
     .intro wz hSw
      (try dsimp only at hSw)
      go_simp
     (try simp only[Act.put,eu,dY,qzs,qzl])
     refine oK 9 (.pointer (some ⟨C.wb,9,none⟩)) ?_ ?_
     .intro wz hSw
      (try dsimp only at hSw)
      go_simp
     (try simp only[Act.put,eu,dY,qzs,qzl])
     refine wpAnyH_ready (rs:=[10]) (by kernel_rfl) (by simp) ?_;refine AllReadyH.cons (o:=_) rfl (fun K hK=>?_) AllReadyH.nil;go_simp;refine hK.out _ _ h58 (fun hH6=>?_);clear hK K
     (try simp only[Act.put,eu,dY,qzs,qzl])
     refine oK 11 (.pointer (some ⟨C.wb,0,none⟩)) ?_ ?_
     .intro wz hSw
      (try dsimp only at hSw)
      go_simp
     (try simp only[Act.put,eu,dY,qzs,qzl])
     refine oK 12 (.pointer (some ⟨C.wb,10,none⟩)) ?_ ?_
     .intro wz hSw
      (try dsimp only at hSw)
      go_simp
     (try simp only[Act.put,eu,dY,qzs,qzl])
     refine wpAnyH_ready (rs:=[13]) (by kernel_rfl) (by simp) ?_;refine AllReadyH.cons (o:=_) rfl (fun K hK=>?_) AllReadyH.nil;go_simp;refine hK.out _ _ h59 (fun hH7=>?_);clear hK K
     (try simp only[Act.put,eu,dY,qzs,qzl])
     refine wpAnyH_done (by kernel_rfl) ?_ _;go_wp2_with fail
     go_meet;refine⟨_,{s with loc:=ps,zk:=h.size},ah HR.out,ah rfl,ah (Pv.O9 hC h.size Pd (G7 HRC.out hlim) hs0 (K8 HRC.out)),ah ?_⟩;exact(((gL.of HB1.out).trans (gL.of hd7)).grow (aD _ _ _ _) (.inl rfl)).grow (aD _ _ _ _) (.inl rfl)
  .
   have hx:Plain.extend C.data C.lim (o+512) h s=Plain.Ui C.data C.lim (o+512) h s:=by unfold Plain.extend;rw[if_neg e1,if_pos e2]
   have hb:(((h.ty.toNat:Nat):Int)==120)=false:=by rw[e2];rfl
   have hb2:(((h.ty.toNat:Nat):Int)==103)=true:=by rw[e2];rfl
   have Kr:=ah (zT C A o s w1 HW1.out);generalize hR:Plain.extend C.data C.lim (o+512) h s=R at hx;have HR:=ah hR;unfold Plain.Ui at hx;clear e1 e2 hR hty
   cases hp:Plain.pend s with
   | true =>
    rw[hp] at Kr;rw[hp,if_pos rfl] at hx;subst hx;clear hp;go_wp2_with (first|(go_at_call 147;refine(Kr.out).mono ?_;rintro e w5 ⟨rfl,rfl⟩)|(go_at_call 112;refine(dF _ _ _).mono ?_;rintro e w5 ⟨rfl,rfl⟩))
    refine⟨rfl,?_⟩;unfold AL;rw[HR.out];exact⟨⟨rfl,HW1.out⟩,gL.of HB1.out⟩
   | false =>
    rw[hp] at Kr;rw[hp,if_neg (by decide)] at hx;clear hp;have h5:=H5.out;have HPR:=ah (FY C hC A o s h.size w1 HW1.out hs0 (by omega) ho);generalize hrc:Plain.recs C.data C.lim (o+512) h.size=rc at hx;have HRC:=ah hrc;clear hrc
    cases rc with
    | error c =>
     simp only at hx;subst hx;have Lb:Hid (Calls qp0 148 #[.pointer (some ⟨C.wb,0,none⟩),.int .i64 h.size] w1 fun e w'=>e=.panicked (mK c)/\Wk C A o s w'/\Below w1.heap.size w1 w'):=ah (HPR.out.mono fun e w' h=>by
      unfold oP at h;rw[HRC.out] at h;exact h)
     clear HPR;go_wp2_with (first|(go_at_call 147;refine(Kr.out).mono ?_;rintro e w5 ⟨rfl,rfl⟩)|(go_at_call 148;(refine(Lb.out).mono ?_);rintro e7 w7 ⟨rfl,Pv,mq⟩;have JK:=ah Pv;have MX:=ah mq;clear mq Pv))
     refine⟨rfl,?_⟩;unfold AL;rw[HR.out];exact⟨⟨rfl,JK.out⟩,(gL.of HB1.out).trans (gL.of MX.out)⟩
    | ok ps =>
     simp only at hx;have Lb:Hid (Calls qp0 148 #[.pointer (some ⟨C.wb,0,none⟩),.int .i64 h.size] w1 fun e w'=>∃ a m c,e=.returned (.slice a m c)/\w'.ownsRow C.w0.heap.size 160 2 (.slice a m c) m (ps.flatMap aR)/\Wk C A o s w'/\Below w1.heap.size w1 w'):=ah (HPR.out.mono fun e w' h=>by
      unfold oP at h;rw[HRC.out] at h;obtain⟨⟨a,m,c,h1,h2⟩,h3⟩:=h;exact⟨a,m,c,h1,h2,h3⟩)
     clear HPR;have hlim:C.lim.iP<=1048576:=by have:=hC.lim;unfold Plain.eT at this;have:=of_decide_eq_true this;omega
     have ag0:=ah (G7 HRC.out hlim);have HKP:=ah (fun (w7:World)(a:Option Addr)(m c:Nat)(hk:Wk C A o s w7)(hp:uD w7 a m c ps)=>WL C hC A o s a m c ps w7 hk hp ag0.out);by_cases hT:C.lim.iP<Plain.iZ (Plain.merge s.glob ps)
     .rw[if_pos hT] at hx;subst hx;have ade:Hid (∀ (w7:World)(a:Option Addr)(m c:Nat),Wk C A o s w7->uD w7 a m c ps->Calls qp0 149 #[.pointer (some ⟨C.wb,0,none⟩),.slice a m c] w7 fun e w'=>e=.panicked (mK 74)/\Wk C A o s w'/\Below w7.heap.size w7 w'):=ah (fun w7 a m c hk hp=>(HKP.out w7 a m c hk hp).mono fun e w' h=>by
       unfold BI at h;rw[if_pos hT] at h;exact h)
      clear HKP hT;go_wp2_with (first|(go_at_call 147;refine(Kr.out).mono ?_;rintro e w5 ⟨rfl,rfl⟩)|(go_at_call 148;(refine(Lb.out).mono ?_);rintro e7 w7 ⟨a7,n7,c7,rfl,Pd,Pv,mq⟩;have HO7:=ah Pd;have JK:=ah Pv;have MX:=ah mq;clear mq Pv Pd)|(go_at_call 149;(refine(ade.out w7 a7 n7 c7 JK.out (mR HO7.out)).mono ?_);rintro e8 w8 ⟨rfl,hk8,Zi⟩;have HW8:=ah hk8;have HB8:=ah Zi;clear hk8 Zi))
      refine⟨rfl,?_⟩;unfold AL;rw[HR.out];exact⟨⟨rfl,HW8.out⟩,((gL.of HB1.out).trans (gL.of MX.out)).trans (gL.of HB8.out)⟩
     .rw[if_neg hT] at hx;subst hx;have ade:Hid (∀ (w7:World)(a:Option Addr)(m c:Nat),Wk C A o s w7->uD w7 a m c ps->Calls qp0 149 #[.pointer (some ⟨C.wb,0,none⟩),.slice a m c] w7 fun e w'=>e=.returned (.tuple #[])/\(∃ A',Wk C A' o {s with glob:=Plain.merge s.glob ps} w')/\gL C w7 w'):=ah (fun w7 a m c hk hp=>(HKP.out w7 a m c hk hp).mono fun e w' h=>by
       unfold BI at h;rw[if_neg hT] at h;exact h)
      clear HKP hT;go_wp2_with (first|(go_at_call 147;refine(Kr.out).mono ?_;rintro e w5 ⟨rfl,rfl⟩)|(go_at_call 148;(refine(Lb.out).mono ?_);rintro e7 w7 ⟨a7,n7,c7,rfl,Pd,Pv,mq⟩;have HO7:=ah Pd;have JK:=ah Pv;have MX:=ah mq;clear mq Pv Pd)|(go_at_call 149;(refine(ade.out w7 a7 n7 c7 JK.out (mR HO7.out)).mono ?_);rintro e8 w8 ⟨rfl,hk8,Zi⟩;have HW8:=ah hk8;have HB8:=ah Zi;clear hk8 Zi))
      go_meet;obtain⟨A',hk8⟩:=HW8.out;exact⟨A',{s with glob:=Plain.merge s.glob ps},ah HR.out,ah rfl,ah hk8,ah (((gL.of HB1.out).trans (gL.of MX.out)).trans HB8.out)⟩
  .
   have hx:Plain.extend C.data C.lim (o+512) h s=Plain.Tg C.data C.lim (o+512) h s:=by unfold Plain.extend;rw[if_neg e1,if_neg e2]
   have hb:(((h.ty.toNat:Nat):Int)==120)=false:=by rcases e3 with e|e <;> (rw[e];rfl)
   have hb2:(((h.ty.toNat:Nat):Int)==103)=false:=by rcases e3 with e|e <;> (rw[e];rfl)
   have SX:=ah e3;generalize hR:Plain.extend C.data C.lim (o+512) h s=R at hx;have HR:=ah hR;unfold Plain.Tg at hx;clear e1 e2 e3 hR hty;have hdd:Below w1.heap.size w1 w1.drew:=(Below.refl _ _).drew;have agO:=look_ok (HW1.out.below hdd) h.ty SX.out;have hbA:Below w1.heap.size w1 (w1.alloc (.cells #[.string ⟨#[]⟩] 213)).drew:=((Below.refl w1.heap.size w1).alloc (aY _) _).drew;have ahz:=look_ok (HW1.out.below hbA) h.ty SX.out;have h7B:=Below.keeps hbA _ _ h7;have agn:(w1.alloc (.cells #[.string ⟨#[]⟩] 213)).drew.cell? ⟨C.wb,11,none⟩=some (.map (some C.mb)):=(HW1.out.below hbA).cell 11;have HBA:=ah hbA;clear hbA;have Yf:w1.cell? ⟨C.wb,11,none⟩=some (.map (some C.mb)):=HW1.out.cell 11;have hfl:=EJ s h.ty SX.out;generalize hlo:Plain.oJ s h.ty=lo at *
   have HLO:=ah hlo;clear hdd hlo;go_upto_region 2 with fail
   go_cut [4,5] from 12 to 21 (fun _ v5 wx=>v5=.bool (!lo.isEmpty)/\Hid (Below w1.heap.size w1 wx))
   case first =>
    go_region
    all_goals
     go_wp2_with fail
     go_meet;exact⟨rfl,ah (by first|exact((Below.refl w1.heap.size w1).alloc (aY _) _).drew|exact(Below.refl w1.heap.size w1).drew.alloc (aY _) _)⟩
   case rest =>
    obtain⟨rfl,HBc⟩:=hcut;clear agO ahz h7B agn HBA Yf;have UO:=ah (HW1.out.below HBc.out);have h5c:=Below.keeps HBc.out _ _ H5.out;have hbc:Hid (gL C w wc):=ah ((gL.of HB1.out).trans (gL.of HBc.out));by_cases hlo:lo=[]
    .rw[if_neg (by simpa using hlo)] at hx;have hle:(!lo.isEmpty)=false:=by rw[hlo];rfl
     rw[if_pos hlo] at hfl;have h1c:wc.cell? ⟨C.wb,1,none⟩=some (.int .i64 C.lim.name):=UO.out.cell 1;have hln:=hC.lim;unfold Plain.eT at hln;have hln:=of_decide_eq_true hln;have hn1:C.lim.name<=4096:=hln.2.1;have hn0:1<=C.lim.name:=hln.1;have Ro:=ah hlo;have UR:=ah hfl;clear hfl hlo hln;generalize (!lo.isEmpty)=lob at hle;subst hle;by_cases hsz:C.lim.name+1<h.size
     .rw[if_pos hsz] at hx;subst hx;go_upto_region 5 with fail
      go_quiet (fail)
      go_wp2_with (go_at_call 112;refine(dF _ _ _).mono ?_;rintro e w5 ⟨rfl,rfl⟩)
      refine⟨rfl,?_⟩;unfold AL;rw[HR.out];exact⟨⟨rfl,UO.out.below (Below.drewN (Below.refl _ _) nq)⟩,hbc.out.trans (gL.of (Below.drewN (Below.refl wc.heap.size wc) nq))⟩
     .rw[if_neg hsz] at hx;have agl:¬ C.lim.name+1<h.size:=hsz;go_upto_region 5 with fail
      go_quiet (fail)
      have HWd:=ah (UO.out.below (Below.drewN (Below.refl _ _) nq));have hbd:Hid (gL C w (wc.drewN nq)):=ah (hbc.out.trans (gL.of (Below.drewN (Below.refl wc.heap.size wc) nq)));have h5d:(wc.drewN nq).cell? ⟨w.heap.size,5,none⟩=some (.int .i64 h.size):=h5c;have h7d:(wc.drewN nq).cell? ⟨w.heap.size,7,none⟩=some (.int .u8 (h.ty.toNat:Int)):=Below.keeps HBc.out _ _ h7;clear h1c h5c agl;generalize wc.drewN nq=wd at *
      clear UO hbc HBc;have ZP:=ah (sN C hC A o s h.size wd HWd.out hs0 (by omega) ho)
      cases hth:Plain.there C.data (o+512) h.size with
      | false =>
       rw[if_pos hth] at hx;subst hx;have Mj:Hid (Calls qp0 150 #[.pointer (some ⟨C.wb,0,none⟩),.int .i64 h.size] wd fun e w'=>e=.panicked (mK 70)/\Wk C A o s w'/\Below wd.heap.size wd w'):=ah (ZP.out.mono fun e w' h=>⟨by
        rcases h.1 with⟨h2,_⟩|⟨_,h2⟩
        .rw[hth] at h2;cases h2
        .exact h2,h.2⟩)
       clear ZP hth;go_wp2_with (go_at_call 150;refine(Mj.out).mono ?_;rintro e w3 ⟨rfl,h3,h4⟩;have HW3:=ah h3;have HB3:=ah h4;clear h3 h4)
       refine⟨rfl,?_⟩;unfold AL;rw[HR.out];exact⟨⟨rfl,HW3.out⟩,hbd.out.trans (gL.of HB3.out)⟩
      | true =>
       rw[if_neg (by rw[hth];decide)] at hx;obtain⟨N,hN0⟩:=Xq hs0;have hN:h.size=(N:Int):=hN0;clear hN0;have hle:=Plain.xU (d:=C.data) (o:=o+512) (by rw[hC.dat.len];exact ho) hth;rw[hC.dat.len,hN] at hle;have hle:o+512+N<=C.dn:=hle;have Mj:Hid (Calls qp0 150 #[.pointer (some ⟨C.wb,0,none⟩),.int .i64 h.size] wd fun e w'=>∃ a',e=.returned (.slice a' N (C.dc-(o+512)))/\Bs w' a' N (C.dc-(o+512)) (eH C.data (o+512) (o+512+N))/\Wk C A o s w'/\Below wd.heap.size wd w'):=ah (ZP.out.mono fun e w' h=>by
        rcases h.1 with⟨_,h2⟩|⟨h2,_⟩
        .obtain⟨a',e1,e2⟩:=xk (hC.bs h.2.1.bJ) (o+512) (o+512+N) (by omega) hle;have e3:o+512+N-(o+512)=N:=by omega
         rw[e3] at e1 e2;rw[hN] at h2;exact⟨a',by rw[h2];exact congrArg _ e1,e2,h.2⟩
        .rw[hth] at h2;cases h2)
       have eN:h.size.toNat=N:=by rw[hN];rfl
       rw[eN] at hx;have hDl:(eH C.data (o+512) (o+512+N)).length=N:=by rw[tQ _ _ _ (by rw[hC.dat.len];exact hle)];omega
       generalize eH C.data (o+512) (o+512+N)=D at *
       have HTX:=ah (fun (wr:World) (a':Option Addr) (hb:Bs wr a' N (C.dc-(o+512)) D)=>pO a' N (C.dc-(o+512)) D wr hb);have htl:(Plain.text D).length<=N:=by
        rw[<-hDl];exact(List.takeWhile_sublist _).length_le
       simp only at hx;generalize Plain.text D=t at *
       have hNs:N<=4097:=by omega
       clear ZP hth hle eN hDl hN;by_cases hbad:t=[]\/C.lim.name<t.length
       .rw[if_pos hbad] at hx;subst hx;have hcs:(t.isEmpty=true)\/(t.isEmpty=false/\C.lim.name<(t.length:Int)):=by
         cases t with
         | nil=>exact .inl rfl
         | cons c t=>exact .inr ⟨rfl,hbad.resolve_left (by simp)⟩
        clear hbad;rcases hcs with ht|⟨ht,ht2⟩
        all_goals
         go_upto_region 8 with(first|(go_at_call 150;refine(Mj.out).mono ?_;rintro e w3 ⟨a',rfl,hbs,h3,h4⟩;have R5:=ah hbs;have HW3:=ah h3;have HB3:=ah h4;clear hbs h3 h4)|(go_at_call 146;refine(HTX.out _ _ R5.out).mono ?_;rintro e w4 ⟨rfl,rfl⟩))
         have h1e:w3.cell? ⟨C.wb,1,none⟩=some (.int .i64 C.lim.name):=HW3.out.cell 1;go_wp2_with (go_at_call 112;refine(dF _ _ _).mono ?_;rintro e w5 ⟨rfl,rfl⟩)
         refine⟨rfl,?_⟩;unfold AL;rw[HR.out];exact⟨⟨rfl,HW3.out⟩,hbd.out.trans (gL.of HB3.out)⟩
       .rw[if_neg hbad] at hx;subst hx;have ht0:t≠[]:=fun e=>hbad (.inl e)
        have ht:t.isEmpty=false:=by simpa using ht0
        have ht2:¬ C.lim.name<(t.length:Int):=fun e=>hbad (.inr e)
        have HT0:=ah ht0;clear hbad ht0;go_upto_region 8 with(first|(go_at_call 150;refine(Mj.out).mono ?_;rintro e w3 ⟨a',rfl,hbs,h3,h4⟩;have R5:=ah hbs;have HW3:=ah h3;have HB3:=ah h4;clear hbs h3 h4)|(go_at_call 146;refine(HTX.out _ _ R5.out).mono ?_;rintro e w4 ⟨rfl,rfl⟩))
        have h1e:w3.cell? ⟨C.wb,1,none⟩=some (.int .i64 C.lim.name):=HW3.out.cell 1;go_upto_region 10 with fail
        have ahN:w3.cell? ⟨C.wb,11,none⟩=some (.map (some C.mb)):=HW3.out.cell 11;have h7e:=Below.keeps HB3.out _ _ h7d;have hsz2:JM s<=2:=by unfold JM;split <;> split <;> omega
        go_still_tail 8,(by kernel_rfl)
        change wpList _ _ _ _ _ w3.drew
        go_wp2_with (at_mapUpdate;refine Gr.uT rfl _ _ _ 83 rfl 213 lawB underlying83 rfl (HW3.out.long.block (w':=w3.drew) rfl) (by unfold maxLen;omega) _ h.ty rfl (Qm h.ty) (lgV t) rfl aaM ?_;intro w5 hm5 hg5;have ET:w3.grownBy w5 (some C.mb):=⟨hg5.os,hg5.tape,hg5.output,hg5.size,hg5.block⟩;have qZ:=ah (HW3.out.dD hC h.ty SX.out t HT0.out (by omega) (by rw[HLO.out];exact Ro.out) hm5 ET);have HG6:=ah ET;clear hm5 hg5 ET)
        go_meet;exact⟨A,Plain.dD s h.ty t,ah HR.out,ah (by unfold Plain.dD;split <;> rfl),qZ,ah ((hbd.out.trans (gL.of HB3.out)).grow HG6.out (.inr (.inl rfl)))⟩
    .rw[if_pos (by simpa using hlo)] at hx;subst hx;have hle:(!lo.isEmpty)=true:=by simp[hlo]
     clear hlo;generalize (!lo.isEmpty)=lob at hle;subst hle;go_wp2_with (go_at_call 112;refine(dF _ _ _).mono ?_;rintro e w5 ⟨rfl,rfl⟩)
     refine⟨rfl,?_⟩;unfold AL;rw[HR.out];exact⟨⟨rfl,UO.out⟩,hbc.out⟩
 case rest =>
  obtain⟨A1,s1,HX,HHD,ML,HBW⟩:=hcut;have hc8:wc.cell? ⟨C.wb,8,none⟩=some (.slice A1.ga A1.gn A1.gc):=ML.out.cell 8;have ac2:wc.cell? ⟨C.wb,10,none⟩=some (.int .i64 s1.zk):=ML.out.cell 10;have HD:=ah (And.intro hc8 ac2);have HWT:=ah (fun w' (hb:Below wc.heap.size wc w')=>Eu A1.ga A1.gn A1.gc s1.glob w' (ML.out.below hb).Rp (hC.pw.below (ML.out.below hb).bJ) (by have:=ML.out.Rp.len;have:=ML.out.gb.1;omega) ML.out.gb.2);have hpz:=Plain.jD s1.glob;have hpb:=ML.out.fit.1;have hlz:=ML.out.fit.2.1;have hlb:=ML.out.fit.2.2.1;have hlim:C.lim.iP<=1048576:=by have:=hC.lim;unfold Plain.eT at this;have:=of_decide_eq_true this;omega
  have HPS:Hid (Plain.iZ s1.glob=Plain.iZ s1.glob):=ah rfl;generalize hT:Plain.iZ s1.glob=T at *
  have HT:=ah hT;clear hc8 ac2 HPS hT hty H5 HR1 h7 HW1 HB1;go_upto_region 19 with fail
  go_region_held3 (fun w'=>w'.cell? ⟨C.wb,8,none⟩=some (.slice A1.ga A1.gn A1.gc)/\w'.cell? ⟨C.wb,10,none⟩=some (.int .i64 s1.zk)) (first|exact HD.out|exact HD7.out) (first|(go_at_call 151;(refine(HWT.out _ ((Below.refl wc.heap.size wc).drew)).mono ?_);rintro e7 w7 ⟨rfl,mq⟩;have hd7:=Below.seq ((Below.refl wc.heap.size wc).drew) mq;have HD7:=ah (And.intro (Below.keeps hd7 _ _ HD.out.1) (Below.keeps hd7 _ _ HD.out.2));have MX:=ah hd7;clear mq hd7))
  have JK:=ah (ML.out.below MX.out);have HBB:Hid (gL C w w7):=ah (HBW.out.trans (gL.of MX.out));have h11:w7.cell? ⟨C.wb,11,none⟩=some (.map (some C.mb)):=JK.out.cell 11;obtain⟨D,hD1,hD2,hD3⟩:=JK.out.long;have HD1:=ah hD1;have HD3:=ah hD3;clear hD1 hD2 hD3 HD HD7 HWT;go_wp2_with (at_range;refine wpList_range_own _ rfl _ 83 rfl 5 213 lawB underlying83 Gr.held C.mb (JM s1) D rfl HD1.out ?_;intro w8 acW hg8 hs8)
  go_frame;have hrs:w7.heap.size≠C.mb:=acW.ne;have Zi:Below w7.heap.size w7 w8:=Ns hg8;have ahk:=ah acW;have HB8:=ah Zi;have hb0:=ML.out.fit.2.2.2.1;have hb1:=ML.out.fit.2.2.2.2.1;have hnm:C.lim.name<=4096:=by have:=hC.lim;unfold Plain.eT at this;have:=of_decide_eq_true this;omega
  have afn:s1.ln.length<=4096:=by omega
  have aeS:s1.lr.length<=4096:=by omega
  have HSB:=ah (aaE s1 afn aeS);have HS0:=ah (TF s1 D HD3.out);clear acW Zi hg8 hs8 hb0 hb1 hnm afn aeS h11;go_loopw [7] (fun t wr=>∃ (left:Lit->Bool)(cnt:Nat),t=.int .i64 (T+s1.zk+vH s1 left)/\Hid (wr.ranges qp0 5 Gr.held C.mb w7.heap.size (JM s1) D left cnt)/\Hid (Below w7.heap.size w7 wr)/\Hid (∀ z,left z=true->Maps.has D z=true)) (fun _ wr=>wr.rangeLeft C.mb w7.heap.size)
  case atStart=>exact⟨Maps.has D,Maps.size D,by rw[HS0.out,Int.add_zero];first|rfl|(congr 1;rw[IntKind.wrap_i64];omega),ahk,HB8,ah (fun z h=>h)⟩
  case round =>
   obtain⟨left,cnt,rfl,hrg,hbel,hsub⟩:=hrel;have hSb:=HSB.out left;have hlf:=hrg.out.left_eq;have HLF:=ah hlf;clear hlf;go_wp2_with (at_next;refine wpList_next_ranges _ rfl _ rfl 5 lawB Gr.held (Value.int .u8) (fun v=>v) (fun key kl hkey=>by obtain⟨x,rfl,_⟩:=Maps.keyOf_int_inv underlying5 hkey;exact⟨x,rfl⟩) (fun v y hv=>⟨v,rfl⟩) C.mb w7.heap.size (JM s1) D left cnt rfl hrg.out ?_ ?_)
   .intro hc0 hl0;have hS:vH s1 left=(s1.ln.length:Int)+s1.lr.length:=by unfold vH;rw[hl0,hl0];simp
    have HS:=ah hS;have HWr:=ah (JK.out.below hbel.out);have hx1:wr.cell? ⟨C.wb,7,none⟩=some (.int .i64 s1.held):=HWr.out.cell 7;have hx2:=aS HWr.out.row 7;clear hS hl0 hc0;go_wp2
    go_end0;unfold AL;rw[HX.out];have e:T+s1.zk+vH s1 left=Plain.qN s1:=by unfold Plain.qN;rw[HS.out,HT.out];omega
    rw[e];exact⟨⟨rfl,A1,HWr.out.setH hC⟩,(HBB.out.trans (gL.of hbel.out)).grow (aD _ _ _ _) (.inl rfl)⟩
   .intro x c kl y ps w9 agA hkey hlk hv hat afO agp afw agZ hen;obtain⟨txt,rfl,hst⟩:=round_facts s1 D HD3.out x c kl y ps hkey (hsub.out kl hlk) hv hat left hlk;have HST:=ah hst;have aek:=ah afO;have Xi:Below w7.heap.size w7 w9:=hbel.out.grown afw hbel.out.size (fun k hk=>by have:=pQ hk;omega);have HB9:=ah Xi;have hS9:=HSB.out (fun z=>left z&&!z.sameKey kl);rw[hst] at hS9;have ahM:=aek.out.left_eq;clear hkey hlk hv hat hst afO afw agZ Xi;go_wp2
    refine⟨⟨fun z=>left z&&!z.sameKey kl,agA,by rw[HST.out];congr 1;omega,ah (aek.out.alloc _),ah (HB9.out.alloc HB9.out.size _),ah (fun z hz=>hsub.out z (by simp only[fE] at hz;exact hz.1))⟩,?_⟩;rw[(aek.out.alloc _).left_eq,HLF.out];exact agp
end St
end
section
open Go.Maps (Keyed)
namespace St
open Gr (aZ aD aN aO aX aG aS aU)
noncomputable def rE:Code:=Tryz.f75.body.getD .skip
noncomputable def AA:Code:=match rE with|.seq _ (.seq _ (.block _ (.loop (.block _ c))))=>c|_=>.skip
noncomputable def DN:List Code:=match AA with|.seq c2 (.seq c3 (.seq c5 (.seq c7 (.seq c8 (.seq c10 (.seq c12 _))))))=>[c2,c3,c5,c7,c8,c10,c12]|_=>[]
def fF(f:Nat->Value)(rb:Nat):Array Value:=#[f 0,f 1,.pointer (some ⟨rb,0,none⟩),f 3,f 4,f 5,f 6,f 7,f 8,f 9,f 10,f 11,f 12,f 13,f 14,f 15,f 16,f 17,f 18,f 19,f 20,f 21,f 22,f 23,f 24,f 25,f 26,f 27,f 28,f 29,f 30,f 31,f 32,f 33,f 34,f 35,f 36,f 37,f 38,f 39,f 40,f 41,f 42,f 43,f 44,f 45,f 46,f 47,f 48,f 49,f 50,f 51,f 52,f 53,f 54,f 55,f 56,f 57,f 58,f 59,f 60,f 61,f 62,f 63,f 64,f 65,f 66,f 67,f 68,f 69,f 70,f 71,f 72,f 73,f 74,f 75,f 76,f 77,f 78,f 79,f 80,f 81,f 82,f 83,f 84,f 85,f 86,f 87,f 88,f 89,f 90,f 91,f 92,f 93,f 94,f 95,f 96,f 97,f 98,f 99,f 100,f 101,f 102,f 103,f 104,f 105,f 106,f 107,f 108,f 109,f 110,f 111,f 112]
theorem nR(A:Array Value)(rb:Nat)(h:A.size=113)(h2:A.getD 2 au=.pointer (some ⟨rb,0,none⟩)):A=fF (fun i=>A.getD i au) rb:=by
 have e:A=((List.range 113).map (fun i=>A.getD i au)).toArray:=by
  apply TS
  .simp[h]
  .intro i hi1 hi2;simp[hi1]
 have e2:((List.range 113).map (fun i=>A.getD i au)).toArray=fF (fun i=>A.getD i au) rb:=by
  unfold fF;rw[<-h2];rfl
 exact e.trans e2
structure Bx(C:Cn)(rb:Nat)(w:World):Prop where
 row:w.heap[rb]? = some (.cells #[.pointer (some ⟨C.wb,0,none⟩)] 77)
theorem Bx.below{C:Cn}{rb:Nat}{w w':World}(h:Bx C rb w)(k:Below w.heap.size w w'):Bx C rb w':=⟨aU h.row k⟩
theorem Bx.cell{C:Cn}{rb:Nat}{w:World}(h:Bx C rb w):w.cell? ⟨rb,0,none⟩=some (.pointer (some ⟨C.wb,0,none⟩)):=aG h.row 0
section
variable {P:Program}{o:Oper}{a:Act}{w:World}
theorem Ci(ahQ:o.guard=none)(t:TypeId)(x lo hi:Operand)(ho:o.op=.slice t x (some lo) (some hi) none)(ht:P.underlying t=some (.slice (P.elem t)))(hs:∀ w,(sizeOf (P.elem t)).run P w=.ok 1 w){ad:Option Addr}{n c:Nat}(hx:a.eval x=.slice ad n c)(l h:Nat){li hi':Int}(hlo:a.eval lo=.int .i64 li)(hhi:a.eval hi=.int .i64 hi')(e1:li=l)(e2:hi'=h)(h1:l<=h)(h2:h<=c){v:Value}(hv:cutV ad c l h=v):(execOp a.eval o).run P w=.ok (.value v) w:=by
 subst e1 e2 hv;have hr:=run_slice_lh (P:=P) (w:=w) t ad n c ht .i64 .i64 (l:Int) (h:Int) (by omega) (by omega) (by omega);have hr2:=(run_sliceAt_slice w t _ _ _ _ ht).trans hr;simp only[hs,Result.andThen,Int.toNat_natCast] at hr2;simp[execOp,ho,hx,hlo,hhi,hr2,Result.andThen,cutV]
theorem X7(t:TypeId)(x:Operand)(ho:o.op=.sliceToArrayPointer t x){ad:Option Addr}{n c:Nat}(hx:a.eval x=.slice ad n c)(m:Nat)(e:TypeId)(ht:P.underlying t=some (.array m e))(hm:m<=n)(w:World):(execOp a.eval o).run P w=.ok (.value (.pointer ad)) w:=by
 have h:¬ n<m:=by omega
 simp[execOp,ho,hx,Instr.arrayAt,run_underlying ht,h,Result.andThen]
theorem Fa(t:TypeId)(x:Operand)(ho:o.op=.load t x){ad:Option Addr}{n c:Nat}{l:List UInt8}(hx:a.eval x=.pointer ad)(hb:Bs w ad n c l)(hn:0<n)(e:TypeId)(ht:P.underlying t=some (.array n e))(hi:(P.info? t).map (·.size)=some n):(execOp a.eval o).run P w=.ok (.value (.agg (aL l))) w:=by
 have hl:=hb.len;obtain⟨b,off,rfl,_⟩:=hb.at 0 hn;have hc:w.rangeAt b off (l.map jJ):=by
  intro j v hj;obtain⟨b',off',he,hc⟩:=hb.2.2.2.1.at j v hj;simp only[Ba,Addr.mk.injEq,and_true] at he;obtain⟨rfl,rfl⟩:=he;exact hc
 have hr:=run_loadVar_mid w b off t (l.map jJ) (.array n e) hc ht rfl (by rw[hi];simp[hl]);unfold execOp;simp only[ho,hx,Instr.loadAt,Instr.sureAddr,Sem.run_bind,Sem.run_pure,Result.andThen_ok,hr];rfl
end
theorem Oy{P:Program}{Q:Exit->Act->World->Prop}{x:Code}{N:Act->World->Prop}{a:Act}{w:World}(h:∀ K:Act->World->Prop,(∀ a w,N a w->K a w)->x.wp P (Exit.then K Q) a w):x.wp P (Exit.then N Q) a w:=h N fun _ _ h=>h
def Q1(C:Cn)(A:Ad)(o:Nat)(s:bW)(rb:Nat)(w:World)(e:Exit)(a:Act)(w':World):Prop :=a.defers=[]/\gL C w w'/\match e with
  | .panic ch=>∃ c,c≠0/\Plain.gH C.data C.lim o s=.stop c o/\ch=mK c/\Wk C A o s w'
  | .ret=>Plain.gH C.data C.lim o s=.stop 0 (o+1024)/\Wk C A (o+1024) s w'
  | .normal=>∃ (h:Hd)(gh:Nat),o+512<=C.dn/\Plain.hread (eH C.data o (o+512))=(h,0)/\Wk C A o s w'/\a.tmps.size=113/\a.tmps.getD 0 au=a.tmps.getD 0 au/\a.tmps.getD 2 au=.pointer (some ⟨rb,0,none⟩) /\
    a.tmps.getD 5 au=.pointer (some ⟨gh,0,none⟩)/\a.tmps.getD 7 au=.int .i64 h.size/\w'.heap[gh]? = some (.cells (dQ h) 74)/\w.heap.size<=gh
  | _=>False
theorem Sc(C:Cn)(hC:C.Ok)(A:Ad)(o:Nat)(s:bW)(rb:Nat)(f:Nat->Value)(w:World)(hw:Wk C A o s w)(hb:Bx C rb w):Sr.gB qp0 (Q1 C A o s rb w) DN {tmps:=fF f rb,defers:=[]} w:=by
 have hdn:=hC.dn;have hl:=hC.dat.len;have hcap:=hC.dat.cap;have hole:=hw.Zv;have hc3:w.cell? ⟨C.wb,3,none⟩=some (.int .i64 o):=hw.cell 3;have hc0:w.cell? ⟨C.wb,0,none⟩=some (.slice C.da C.dn C.dc):=hw.cell 0;have hcb:=hb.cell;have HW:=ah hw;have HB:=ah hb;clear hw hb;unfold fF;simp only[DN,AA,rE,Tryz.f75,Option.getD_some,Sr.gB];generalize hst:Plain.gH C.data C.lim o s=R;have HST:=ah hst;unfold Plain.gH at hst;rw[hl] at hst;clear hl;go_upto_region 2 with fail
 go_quiet (fail)
 have hwq:=HW.out.below (Below.drewN (Below.refl w.heap.size w) nq);have hbq:=HB.out.below (Below.drewN (Below.refl w.heap.size w) nq);have HBQ:=ah (Below.drewN (Below.refl w.heap.size w) nq);have HW1:=ah hwq;have HB1:=ah hbq;clear hwq hbq hc3 hc0 hcb;generalize w.drewN nq=w1 at *
 have hcb:w1.cell? ⟨rb,0,none⟩=some (.pointer (some ⟨C.wb,0,none⟩)):=HB1.out.cell;by_cases c1:C.dn-o=0
 .rw[if_pos c1] at hst;subst hst;have c1i:((C.dn:Int)-o==0)=true:=by rw[beq_iff_eq];omega
  go_wp2_with (go_at_call 112;refine(dF _ _ _).mono ?_;rintro e w5 ⟨rfl,rfl⟩)
  exact⟨rfl,gL.of HBQ.out,71,by decide,HST.out,rfl,HW1.out⟩
 .rw[if_neg c1] at hst;have c1i:((C.dn:Int)-o==0)=false:=by rw[beq_eq_false_iff_ne];omega
  by_cases c2:C.dn-o<512
  .rw[if_pos c2] at hst;subst hst;have c2i:(C.dn:Int)-o<512:=by omega
   go_wp2_with (go_at_call 112;refine(dF _ _ _).mono ?_;rintro e w5 ⟨rfl,rfl⟩)
   exact⟨rfl,gL.of HBQ.out,70,by decide,HST.out,rfl,HW1.out⟩
  .rw[if_neg c2] at hst;have c2i:¬ (C.dn:Int)-o<512:=by omega
   have hlen:(eH C.data o (o+512)).length=512:=by rw[tQ _ _ _ (by rw[hC.dat.len];omega)];omega
   have Tf:=ah (fun (wr:World)(hb:Below w1.heap.size w1 wr)=>xk (hC.bs (HW1.out.below hb).bJ) o (o+512) (by omega) (by omega));obtain⟨a',e1,_⟩:=Tf.out w1 (Below.refl _ _);have e3:o+512-o=512:=by omega
   rw[e3] at e1;have UU:=ah e1;have UW:Hid (∀ wr,Below w1.heap.size w1 wr->Calls qp0 113 #[.agg (aL (eH C.data o (o+512)))] wr fun e w'=>e=.returned (Km (Plain.hread (eH C.data o (o+512))))/\Below wr.heap.size wr w'):=ah (fun wr hb=>R9 _ hlen wr C.ev (hC.er.below (HW1.out.below hb).bJ));have jZ:Hid (∀ wr,Below w1.heap.size w1 wr->wr.cell? ⟨rb,0,none⟩=some (.pointer (some ⟨C.wb,0,none⟩))/\wr.cell? ⟨C.wb,0,none⟩=some (.slice C.da C.dn C.dc)/\wr.cell? ⟨C.wb,3,none⟩=some (.int .i64 o)/\Bs wr a' 512 (C.dc-o) (eH C.data o (o+512))):=ah (fun wr hb=>by
    obtain⟨a2,e4,e5⟩:=Tf.out wr hb;rw[e3] at e4 e5;have e6:=UU.out.symm.trans e4;simp only[Value.slice.injEq,and_true] at e6;subst e6;exact⟨(HB1.out.below hb).cell,(HW1.out.below hb).cell 0,(HW1.out.below hb).cell 3,e5⟩)
   have HSB:=ah (show(qp0.info? 70).map (·.size)=some 512 by kernel_rfl);have HLN:=ah hlen;clear e1 e3 Tf hlen c1 c2;generalize hD:eH C.data o (o+512)=D at *
   have HDD:=ah hD;generalize hr:Plain.hread D=r at *
   have HRR:=ah hr;obtain⟨r1,r2⟩:=r;simp only at hst;unfold Km at UW;simp only at UW;clear hD hr hcb;go_upto_region 7 with fail
   refine Oy fun K hK=>?_
   go_cut [5,6] from 28 to 47 (fun v5 v6 wx=>∃ (gh:Nat),v5=.pointer (some ⟨gh,0,none⟩)/\v6=.int .i64 r2/\Hid (Below w1.heap.size w1 wx)/\Hid (w1.heap.size<=gh)/\Hid (wx.heap[gh]? = some (.cells (dQ r1) 74)))
   case first =>
    refine wp_region_held_drew (S:=fun w':World=>Below w1.heap.size w1 w') (by kernel_rfl) ((Below.refl _ _).drew) (fun hHeld=>?_);refine wpAnyH_take (i:=0) (oi:={dst:=some 29,op:=Op.load 77 (Operand.tmp 2),type:=77,pos:=_,after:=_,guard:=none}) (v:=(.pointer (some ⟨C.wb,0,none⟩))) rfl (by kernel_rfl) (by kernel_rfl) (by kernel_rfl) (fun _ _ _ h=>h) (Or.inl ⟨by rfl,?_⟩) (by assumption) ?_
    .intro wz hSw;obtain⟨s1,s2,s3,_⟩:=jZ.out wz hSw;go_simp
    (try simp only[Act.put,eu,dY,qzs,qzl])
    refine wpAnyH_take (i:=1) (oi:={dst:=some 30,op:=Op.nilCheck (Operand.tmp 29),type:=0,pos:=_,after:=_,guard:=none}) (v:=(.pointer (some ⟨C.wb,0,none⟩))) rfl (by kernel_rfl) (by kernel_rfl) (by kernel_rfl) (fun _ _ _ h=>h) (Or.inl ⟨by rfl,?_⟩) (by assumption) ?_
    .intro wz hSw;obtain⟨s1,s2,s3,_⟩:=jZ.out wz hSw;go_simp
    (try simp only[Act.put,eu,dY,qzs,qzl])
    refine wpAnyH_take (i:=2) (oi:={dst:=some 31,op:=Op.fieldAddr 85 (Operand.tmp 30) 0,type:=0,pos:=_,after:=_,guard:=none}) (v:=(.pointer (some ⟨C.wb,0,none⟩))) rfl (by kernel_rfl) (by kernel_rfl) (by kernel_rfl) (fun _ _ _ h=>h) (Or.inl ⟨by rfl,?_⟩) (by assumption) ?_
    .intro wz hSw;obtain⟨s1,s2,s3,_⟩:=jZ.out wz hSw;go_simp
    (try simp only[Act.put,eu,dY,qzs,qzl])
    refine wpAnyH_take (i:=3) (oi:={dst:=some 32,op:=Op.load 22 (Operand.tmp 31),type:=22,pos:=_,after:=_,guard:=none}) (v:=(.slice C.da C.dn C.dc)) rfl (by kernel_rfl) (by kernel_rfl) (by kernel_rfl) (fun _ _ _ h=>h) (Or.inl ⟨by rfl,?_⟩) (by assumption) ?_
    .intro wz hSw;obtain⟨s1,s2,s3,_⟩:=jZ.out wz hSw;go_simp
    (try simp only[Act.put,eu,dY,qzs,qzl])
    refine wpAnyH_take (i:=4) (oi:={dst:=some 33,op:=Op.load 77 (Operand.tmp 2),type:=77,pos:=_,after:=_,guard:=none}) (v:=(.pointer (some ⟨C.wb,0,none⟩))) rfl (by kernel_rfl) (by kernel_rfl) (by kernel_rfl) (fun _ _ _ h=>h) (Or.inl ⟨by rfl,?_⟩) (by assumption) ?_
    .intro wz hSw;obtain⟨s1,s2,s3,_⟩:=jZ.out wz hSw;go_simp
    (try simp only[Act.put,eu,dY,qzs,qzl])
    refine wpAnyH_take (i:=5) (oi:={dst:=some 34,op:=Op.nilCheck (Operand.tmp 33),type:=0,pos:=_,after:=_,guard:=none}) (v:=(.pointer (some ⟨C.wb,0,none⟩))) rfl (by kernel_rfl) (by kernel_rfl) (by kernel_rfl) (fun _ _ _ h=>h) (Or.inl ⟨by rfl,?_⟩) (by assumption) ?_
    .intro wz hSw;obtain⟨s1,s2,s3,_⟩:=jZ.out wz hSw;go_simp
    (try simp only[Act.put,eu,dY,qzs,qzl])
    refine wpAnyH_take (i:=6) (oi:={dst:=some 35,op:=Op.fieldAddr 85 (Operand.tmp 34) 2,type:=0,pos:=_,after:=_,guard:=none}) (v:=(.pointer (some ⟨C.wb,3,none⟩))) rfl (by kernel_rfl) (by kernel_rfl) (by kernel_rfl) (fun _ _ _ h=>h) (Or.inl ⟨by rfl,?_⟩) (by assumption) ?_
    .intro wz hSw;obtain⟨s1,s2,s3,_⟩:=jZ.out wz hSw;go_simp
    (try simp only[Act.put,eu,dY,qzs,qzl])
    refine wpAnyH_take (i:=7) (oi:={dst:=some 36,op:=Op.load 3 (Operand.tmp 35),type:=3,pos:=_,after:=_,guard:=none}) (v:=(.int .i64 o)) rfl (by kernel_rfl) (by kernel_rfl) (by kernel_rfl) (fun _ _ _ h=>h) (Or.inl ⟨by rfl,?_⟩) (by assumption) ?_
    .intro wz hSw;obtain⟨s1,s2,s3,_⟩:=jZ.out wz hSw;go_simp
    (try simp only[Act.put,eu,dY,qzs,qzl])
    refine wpAnyH_take (i:=8) (oi:={dst:=some 37,op:=Op.load 77 (Operand.tmp 2),type:=77,pos:=_,after:=_,guard:=none}) (v:=(.pointer (some ⟨C.wb,0,none⟩))) rfl (by kernel_rfl) (by kernel_rfl) (by kernel_rfl) (fun _ _ _ h=>h) (Or.inl ⟨by rfl,?_⟩) (by assumption) ?_
    .intro wz hSw;obtain⟨s1,s2,s3,_⟩:=jZ.out wz hSw;go_simp
    (try simp only[Act.put,eu,dY,qzs,qzl])
    refine wpAnyH_take (i:=9) (oi:={dst:=some 38,op:=Op.nilCheck (Operand.tmp 37),type:=0,pos:=_,after:=_,guard:=none}) (v:=(.pointer (some ⟨C.wb,0,none⟩))) rfl (by kernel_rfl) (by kernel_rfl) (by kernel_rfl) (fun _ _ _ h=>h) (Or.inl ⟨by rfl,?_⟩) (by assumption) ?_
    .intro wz hSw;obtain⟨s1,s2,s3,_⟩:=jZ.out wz hSw;go_simp
    (try simp only[Act.put,eu,dY,qzs,qzl])
    refine wpAnyH_take (i:=10) (oi:={dst:=some 39,op:=Op.fieldAddr 85 (Operand.tmp 38) 2,type:=0,pos:=_,after:=_,guard:=none}) (v:=(.pointer (some ⟨C.wb,3,none⟩))) rfl (by kernel_rfl) (by kernel_rfl) (by kernel_rfl) (fun _ _ _ h=>h) (Or.inl ⟨by rfl,?_⟩) (by assumption) ?_
    .intro wz hSw;obtain⟨s1,s2,s3,_⟩:=jZ.out wz hSw;go_simp
    (try simp only[Act.put,eu,dY,qzs,qzl])
    refine wpAnyH_take (i:=11) (oi:={dst:=some 40,op:=Op.load 3 (Operand.tmp 39),type:=3,pos:=_,after:=_,guard:=none}) (v:=(.int .i64 o)) rfl (by kernel_rfl) (by kernel_rfl) (by kernel_rfl) (fun _ _ _ h=>h) (Or.inl ⟨by rfl,?_⟩) (by assumption) ?_
    .intro wz hSw;obtain⟨s1,s2,s3,_⟩:=jZ.out wz hSw;go_simp
    (try simp only[Act.put,eu,dY,qzs,qzl])
    refine wpAnyH_take (i:=12) (oi:={dst:=some 41,op:=Op.binOp BinOp.add 3 (Operand.tmp 40) (Operand.const (Value.int IntKind.i64 512)) 3,type:=3,pos:=_,after:=_,guard:=none}) (v:=(.int .i64 ((o:Int)+512))) rfl (by kernel_rfl) (by kernel_rfl) (by kernel_rfl) (fun _ _ _ h=>h) (Or.inl ⟨by rfl,?_⟩) (by assumption) ?_
    .intro wz hSw;obtain⟨s1,s2,s3,_⟩:=jZ.out wz hSw;go_simp;rw[IntKind.wrap_i64];omega
    (try simp only[Act.put,eu,dY,qzs,qzl])
    refine wpAnyH_take (i:=13) (oi:={dst:=some 42,op:=Op.slice 22 (Operand.tmp 32) (some (Operand.tmp 36)) (some (Operand.tmp 41)) none,type:=22,pos:=_,after:=_,guard:=none}) (v:=(.slice a' 512 (C.dc-o))) rfl (by kernel_rfl) (by kernel_rfl) (by kernel_rfl) (fun _ _ _ h=>h) (Or.inl ⟨by rfl,?_⟩) (by assumption) ?_
    .intro wz hSw;exact Ci rfl 22 (.tmp 32) (.tmp 36) (.tmp 41) rfl underlying22 Ik rfl o (o+512) rfl rfl rfl (by omega) (by omega) (by omega) UU.out
    (try simp only[Act.put,eu,dY,qzs,qzl])
    refine wpAnyH_take (i:=14) (oi:={dst:=some 43,op:=Op.sliceToArrayPointer 70 (Operand.tmp 42),type:=0,pos:=_,after:=_,guard:=none}) (v:=(.pointer a')) rfl (by kernel_rfl) (by kernel_rfl) (by kernel_rfl) (fun _ _ _ h=>h) (Or.inl ⟨by rfl,?_⟩) (by assumption) ?_
    .intro wz hSw;exact X7 70 (.tmp 42) rfl rfl 512 5 underlying70 (by decide) wz
    (try simp only[Act.put,eu,dY,qzs,qzl])
    refine wpAnyH_take (i:=15) (oi:={dst:=some 44,op:=Op.load 70 (Operand.tmp 43),type:=70,pos:=_,after:=_,guard:=none}) (v:=(.agg (aL D))) rfl (by kernel_rfl) (by kernel_rfl) (by kernel_rfl) (fun _ _ _ h=>h) (Or.inl ⟨by rfl,?_⟩) (by assumption) ?_
    .intro wz hSw;exact Fa 70 (.tmp 43) rfl rfl (jZ.out wz hSw).2.2.2 (by decide) 5 underlying70 HSB.out
    (try simp only[Act.put,eu,dY,qzs,qzl])
    refine wpAnyH_ready (rs:=[16,20]) (by kernel_rfl) (by simp) ?_;refine AllReadyH.cons (o:={dst:=some 45,op:=Op.call {callee:=Callee.value (Operand.func 113),args:=#[Operand.tmp 44],argTypes:=#[70]},type:=88,pos:=_,after:=_,guard:=none}) rfl (fun K hK=>?_) ?_
    .skip
     go_simp
     (go_at_call 113;(refine(UW.out w1.drew ((Below.refl w1.heap.size w1).drew)).mono ?_);rintro e7 w7 ⟨rfl,mq⟩)
     have hd7:Below w1.heap.size w1 w7:=Below.seq ((Below.refl w1.heap.size w1).drew) mq
     (try go_wp2_with fail)
     refine hK.out _ _ hd7 (fun hH5=>?_);clear hK K
     (try simp only[Act.put,eu,dY,qzs,qzl])
     refine wpAnyH_take (i:=17) (oi:={dst:=some 28,op:=Op.move (Operand.tmp 45),type:=88,pos:=_,after:=_,guard:=none}) (v:=(.tuple #[.agg (dQ r1),.int .i64 r2])) rfl (by kernel_rfl) (by kernel_rfl) (by kernel_rfl) (fun _ _ _ h=>h) (Or.inl ⟨by rfl,?_⟩) (by assumption) ?_
     .intro wz hSw;obtain⟨s1,s2,s3,_⟩:=jZ.out wz hSw;go_simp
     (try simp only[Act.put,eu,dY,qzs,qzl])
     refine wpAnyH_take (i:=18) (oi:={dst:=some 46,op:=Op.extract (Operand.tmp 28) 0,type:=74,pos:=_,after:=_,guard:=none}) (v:=(.agg (dQ r1))) rfl (by kernel_rfl) (by kernel_rfl) (by kernel_rfl) (fun _ _ _ h=>h) (Or.inl ⟨by rfl,?_⟩) (by assumption) ?_
     .intro wz hSw;obtain⟨s1,s2,s3,_⟩:=jZ.out wz hSw;go_simp
     (try simp only[Act.put,eu,dY,qzs,qzl])
     refine wpAnyH_take (i:=19) (oi:={dst:=some 47,op:=Op.extract (Operand.tmp 28) 1,type:=28,pos:=_,after:=_,guard:=none}) (v:=(.int .i64 r2)) rfl (by kernel_rfl) (by kernel_rfl) (by kernel_rfl) (fun _ _ _ h=>h) (Or.inl ⟨by rfl,?_⟩) (by assumption) ?_
     .intro wz hSw;obtain⟨s1,s2,s3,_⟩:=jZ.out wz hSw;go_simp
     (try simp only[Act.put,eu,dY,qzs,qzl])
     refine wpAnyH_ready (rs:=[20]) (by kernel_rfl) (by simp) ?_;refine AllReadyH.cons (o:={dst:=some 5,op:=Op.alloc 74,type:=0,pos:=_,after:=_,guard:=none}) rfl (fun K hK=>?_) AllReadyH.nil;go_simp;have OV:(w7.alloc (.cells (dQ Hd.zero) 74)).heap[w7.heap.size]? = some (.cells (dQ Hd.zero) 74):=JL;have hd8:Below w1.heap.size w1 (w7.alloc (.cells (dQ Hd.zero) 74)):=hd7.alloc hd7.size _;refine hK.out _ _ hd8 (fun hH1=>?_);clear hK K
     (try simp only[Act.put,eu,dY,qzs,qzl])
     refine wpAnyH_ready (rs:=[21]) (by kernel_rfl) (by simp) ?_;refine AllReadyH.cons (o:={dst:=none,op:=Op.store 74 (Operand.tmp 5) (Operand.tmp 46),type:=0,pos:=_,after:=_,guard:=none}) rfl (fun K hK=>?_) AllReadyH.nil;refine jS rfl 74 (.tmp 5) (.tmp 46) rfl w7.heap.size (by simp[Act.eval,Act.put]) (dQ r1) (by simp[Act.eval,Act.put]) (dQ Hd.zero) 74 OV rfl (mo r1) (jP r1) ?_;have X3:Below w1.heap.size w1 (World.setRow (w7.alloc (.cells (dQ Hd.zero) 74)) w7.heap.size (dQ r1)):=Below.setRow hd8 hd7.size _;refine hK.out _ _ X3 (fun hH8=>?_);clear hK K
     (try simp only[Act.put,eu,dY,qzs,qzl])
     refine wpAnyH_take (i:=22) (oi:={dst:=some 6,op:=Op.assign (Operand.tmp 47),type:=28,pos:=_,after:=_,guard:=none}) (v:=(.int .i64 r2)) rfl (by kernel_rfl) (by kernel_rfl) (by kernel_rfl) (fun _ _ _ h=>h) (Or.inl ⟨by rfl,?_⟩) (by assumption) ?_
     .intro wz hSw;obtain⟨s1,s2,s3,_⟩:=jZ.out wz hSw;go_simp
     (try simp only[Act.put,eu,dY,qzs,qzl])
     refine wpAnyH_done (by kernel_rfl) ?_ _;go_wp2_with fail
     go_meet;exact⟨w7.heap.size,rfl,rfl,ah X3,ah hd7.size,ah (setRow_heap _ _ _ _ _ _ OV)⟩
    refine AllReadyH.cons (o:={dst:=some 5,op:=Op.alloc 74,type:=0,pos:=_,after:=_,guard:=none}) rfl (fun K hK=>?_) AllReadyH.nil;go_simp;refine hK.out _ _ (((Below.refl w1.heap.size w1).drew).alloc (aY _) _) (fun hH1=>?_);clear hK K
    (try simp only[Act.put,eu,dY,qzs,qzl])
    refine wpAnyH_ready (rs:=[16]) (by kernel_rfl) (by simp) ?_;refine AllReadyH.cons (o:={dst:=some 45,op:=Op.call {callee:=Callee.value (Operand.func 113),args:=#[Operand.tmp 44],argTypes:=#[70]},type:=88,pos:=_,after:=_,guard:=none}) rfl (fun K hK=>?_) AllReadyH.nil;go_simp
    (go_at_call 113;(refine(UW.out (w1.drew.alloc _) (((Below.refl w1.heap.size w1).drew).alloc (aY _) _)).mono ?_);rintro e7 w7 ⟨rfl,mq⟩)
    have hd7:Below w1.heap.size w1 w7:=Below.seq (((Below.refl w1.heap.size w1).drew).alloc (aY _) _) mq;have OV:w7.heap[w1.heap.size]? = some (.cells (dQ Hd.zero) 74):=by rw[mq.block _ (by simp)];exact JL
    (try go_wp2_with fail)
    refine hK.out _ _ hd7 (fun hH5=>?_);clear hK K
    (try simp only[Act.put,eu,dY,qzs,qzl])
    refine wpAnyH_take (i:=17) (oi:={dst:=some 28,op:=Op.move (Operand.tmp 45),type:=88,pos:=_,after:=_,guard:=none}) (v:=(.tuple #[.agg (dQ r1),.int .i64 r2])) rfl (by kernel_rfl) (by kernel_rfl) (by kernel_rfl) (fun _ _ _ h=>h) (Or.inl ⟨by rfl,?_⟩) (by assumption) ?_
    .intro wz hSw;obtain⟨s1,s2,s3,_⟩:=jZ.out wz hSw;go_simp
    (try simp only[Act.put,eu,dY,qzs,qzl])
    refine wpAnyH_take (i:=18) (oi:={dst:=some 46,op:=Op.extract (Operand.tmp 28) 0,type:=74,pos:=_,after:=_,guard:=none}) (v:=(.agg (dQ r1))) rfl (by kernel_rfl) (by kernel_rfl) (by kernel_rfl) (fun _ _ _ h=>h) (Or.inl ⟨by rfl,?_⟩) (by assumption) ?_
    .intro wz hSw;obtain⟨s1,s2,s3,_⟩:=jZ.out wz hSw;go_simp
    (try simp only[Act.put,eu,dY,qzs,qzl])
    refine wpAnyH_take (i:=19) (oi:={dst:=some 47,op:=Op.extract (Operand.tmp 28) 1,type:=28,pos:=_,after:=_,guard:=none}) (v:=(.int .i64 r2)) rfl (by kernel_rfl) (by kernel_rfl) (by kernel_rfl) (fun _ _ _ h=>h) (Or.inl ⟨by rfl,?_⟩) (by assumption) ?_
    .intro wz hSw;obtain⟨s1,s2,s3,_⟩:=jZ.out wz hSw;go_simp
    (try simp only[Act.put,eu,dY,qzs,qzl])
    refine wpAnyH_ready (rs:=[21]) (by kernel_rfl) (by simp) ?_;refine AllReadyH.cons (o:={dst:=none,op:=Op.store 74 (Operand.tmp 5) (Operand.tmp 46),type:=0,pos:=_,after:=_,guard:=none}) rfl (fun K hK=>?_) AllReadyH.nil;refine jS rfl 74 (.tmp 5) (.tmp 46) rfl w1.heap.size (by simp[Act.eval,Act.put]) (dQ r1) (by simp[Act.eval,Act.put]) (dQ Hd.zero) 74 OV rfl (mo r1) (jP r1) ?_;have X3:Below w1.heap.size w1 (World.setRow w7 w1.heap.size (dQ r1)):=Below.setRow hd7 (aY _) _;refine hK.out _ _ X3 (fun hH8=>?_);clear hK K
    (try simp only[Act.put,eu,dY,qzs,qzl])
    refine wpAnyH_take (i:=22) (oi:={dst:=some 6,op:=Op.assign (Operand.tmp 47),type:=28,pos:=_,after:=_,guard:=none}) (v:=(.int .i64 r2)) rfl (by kernel_rfl) (by kernel_rfl) (by kernel_rfl) (fun _ _ _ h=>h) (Or.inl ⟨by rfl,?_⟩) (by assumption) ?_
    .intro wz hSw;obtain⟨s1,s2,s3,_⟩:=jZ.out wz hSw;go_simp
    (try simp only[Act.put,eu,dY,qzs,qzl])
    refine wpAnyH_done (by kernel_rfl) ?_ _;go_wp2_with fail
    go_meet;exact⟨w1.heap.size,rfl,rfl,ah X3,ah (aY _),ah (setRow_heap _ _ _ _ _ _ OV)⟩
   case rest =>
    obtain⟨gh,rfl,rfl,Xr,agj,HGH⟩:=hcut;have UO:=ah (HW1.out.below Xr.out);have HBc:=ah (HB1.out.below Xr.out);have HCH:=ah ((gL.of HBQ.out).trans (gL.of (C:=C) Xr.out));have hcb:wc.cell? ⟨rb,0,none⟩=some (.pointer (some ⟨C.wb,0,none⟩)):=HBc.out.cell;have ab9:o+512<=C.dn:=by omega
    have hgw:w.heap.size<=gh:=tT HBQ.out.size agj.out;clear jZ UW;by_cases U1:r2=40
    .rw[if_pos U1] at hst;subst hst;have afd:(r2==40)=true:=by rw[U1];rfl
     have U0:=ah (N8 C hC A o s wc UO.out ab9);clear U1;by_cases hf0:(Plain.finish C.data o s).1=0
     .have hf2:(Plain.finish C.data o s).2=o+1024:=by
       revert hf0;unfold Plain.finish;split
       .intro h;exact absurd h (show ¬ (77:Int)=0 by decide)
       .split
        .intro h;exact absurd h (show ¬ (71:Int)=0 by decide)
        .split
         .intro h;exact absurd h (show ¬ (72:Int)=0 by decide)
         .intro _;rfl
      have aea:Hid (Calls qp0 114 #[.pointer (some ⟨C.wb,0,none⟩)] wc fun e w'=>e=.returned (.tuple #[])/\Wk C A (o+1024) s w'/\gL C wc w'):=ah (U0.out.mono fun e w' h=>by
       rcases h.1 with⟨_,h2,h3⟩|⟨h1,_⟩
       .exact⟨h2,h3,h.2⟩
       .exact absurd hf0 h1)
      have adB:Hid (Plain.gH C.data C.lim o s=.stop 0 (o+1024)):=ah (by rw[HST.out,hf0,hf2]);clear U0 hf0 hf2;go_wp2_with (go_at_call 114;refine(aea.out).mono ?_;rintro e w5 ⟨rfl,h3,h4⟩;have qZ:=ah h3;have Wv:=ah h4;clear h3 h4)
      exact⟨rfl,HCH.out.trans Wv.out,adB.out,qZ.out⟩
     .have hf2:(Plain.finish C.data o s).2=o:=by
       revert hf0;unfold Plain.finish;split
       .intro _;rfl
       .split
        .intro _;rfl
        .split
         .intro _;rfl
         .intro h;exact absurd rfl h
      have aea:Hid (Calls qp0 114 #[.pointer (some ⟨C.wb,0,none⟩)] wc fun e w'=>e=.panicked (mK (Plain.finish C.data o s).1)/\Wk C A o s w'/\gL C wc w'):=ah (U0.out.mono fun e w' h=>by
       rcases h.1 with⟨h1,_⟩|⟨_,h2,h3⟩
       .exact absurd h1 hf0
       .exact⟨h2,h3,h.2⟩)
      have adB:Hid (Plain.gH C.data C.lim o s=.stop (Plain.finish C.data o s).1 o):=ah (by rw[HST.out,hf2]);have HF0:=ah hf0;generalize (Plain.finish C.data o s).1=fc at *
      clear U0 hf0 hf2;go_wp2_with (go_at_call 114;refine(aea.out).mono ?_;rintro e w5 ⟨rfl,h3,h4⟩;have qZ:=ah h3;have Wv:=ah h4;clear h3 h4)
      exact⟨rfl,HCH.out.trans Wv.out,fc,HF0.out,adB.out,rfl,qZ.out⟩
    .rw[if_neg U1] at hst;have afd:(r2==40)=false:=by rw[beq_eq_false_iff_ne];exact U1
     by_cases h0:r2=0
     .subst h0;have hc5:wc.cell? ⟨gh,5,none⟩=some (.int .i64 r1.size):=by rw[aG HGH.out];rfl
      clear afd U1;go_wp2
      exact⟨rfl,HCH.out,r1,gh,ab9,by rw[HDD.out];exact HRR.out,UO.out,rfl,rfl,rfl,rfl,rfl,HGH.out,hgw⟩
     .rw[if_pos h0] at hst;subst hst;have h0b:(r2 != 0)=true:=by rw[bne_iff_ne];exact h0
      have H0:=ah h0;clear U1 h0;go_wp2_with (go_at_call 112;refine(dF _ _ _).mono ?_;rintro e w5 ⟨rfl,rfl⟩)
      exact⟨rfl,HCH.out,r2,H0.out,HST.out,rfl,UO.out⟩
end St
end
section
open Go.Maps (Keyed)
namespace St
open Gr (aZ aD aN aO aX aG aS aU)
noncomputable def yV:Code:=match AA with|.seq _ (.seq _ (.seq _ (.seq _ (.seq _ (.seq _ (.seq _ x))))))=>x|_=>.skip
noncomputable def c20:Code:=match yV with|.seq _ c=>c|_=>.skip
noncomputable def Di:Code:=match yV with|.seq (.block _ c) _=>c|_=>.skip
noncomputable def c14:Code:=match Di with|.seq c _=>c|_=>.skip
noncomputable def c15:Code:=match Di with|.seq _ (.cond _ c _)=>c|_=>.skip
noncomputable def Cz:Code:=match Di with|.seq _ (.cond _ _ c)=>c|_=>.skip
noncomputable def c16:Code:=match Cz with|.seq c _=>c|_=>.skip
noncomputable def runN:Code:=match Cz with|.seq _ (.cond _ c _)=>c|_=>.skip
noncomputable def c13:Code:=match Cz with|.seq _ (.cond _ _ c)=>c|_=>.skip
noncomputable def c17:Code:=match runN with|.seq c _=>c|_=>.skip
noncomputable def c18:Code:=match runN with|.seq _ (.seq c _)=>c|_=>.skip
noncomputable def runM:Code:=match runN with|.seq _ (.seq _ c)=>c|_=>.skip
structure Fm(rb:Nat)(a:Act):Prop where
 defers:a.defers=[]
 size:a.tmps.size=113
 box:a.tmps.getD 2 au=.pointer (some ⟨rb,0,none⟩)
def Q14(rb:Nat)(f:Nat->Value)(t:Nat)(x:Bool)(w:World)(e:Exit)(a:Act)(w':World):Prop :=e=.normal/\Fm rb a/\a.tmps.getD 5 au=f 5/\a.tmps.getD 7 au=f 7/\a.tmps.getD t au=.bool x/\w'=w
def Q13(w:World)(e:Exit)(a:Act)(w':World):Prop:=e=.panic (mK 73)/\w'=w
def Tj(C:Cn)(A:Ad)(o:Nat)(s:bW)(h:Hd)(rb:Nat)(f:Nat->Value)(w:World)(e:Exit)(a:Act)(w':World):Prop :=gL C w w'/\match Plain.extend C.data C.lim (o+512) h s with
  | .error c=>e=.panic (mK c)/\Wk C A o s w'
  | .ok s'=>e=.normal/\Fm rb a/\a.tmps.getD 7 au=f 7/\∃ A',Wk C A' o s' w'
theorem Tj.err{C:Cn}{A:Ad}{o:Nat}{s:bW}{h:Hd}{rb:Nat}{f:Nat->Value}{w w':World}{a:Act}{c:Int}(hx:Plain.extend C.data C.lim (o+512) h s=.error c)(h1:gL C w w')(h2:Wk C A o s w'):Tj C A o s h rb f w (.panic (mK c)) a w':=by
 unfold Tj;rw[hx];exact⟨h1,rfl,h2⟩
theorem Tj.ok{C:Cn}{A A':Ad}{o:Nat}{s s':bW}{h:Hd}{rb:Nat}{f:Nat->Value}{w w':World}{a:Act}(hx:Plain.extend C.data C.lim (o+512) h s=.ok s')(h1:gL C w w')(h2:Wk C A' o s' w')(h3:Fm rb a)(h4:a.tmps.getD 7 au=f 7):Tj C A o s h rb f w .normal a w':=by
 unfold Tj;rw[hx];exact⟨h1,rfl,h3,h4,_,h2⟩
theorem Qz(ty:UInt8)(k:Nat)(hk:k<256)(h:ty≠UInt8.ofNat k):(((ty.toNat:Nat):Int)==(k:Int))=false:=by
 rw[beq_eq_false_iff_ne];intro e;apply h;apply VL.1;have:(UInt8.ofNat k).toNat=k:=by simp[qbR];omega
 omega
theorem aee(rb gh:Nat)(h:Hd)(f:Nat->Value)(w:World)(h5:f 5=.pointer (some ⟨gh,0,none⟩))(hr:w.heap[gh]? = some (.cells (dQ h) 74)):Sr.gB qp0 (Q14 rb f 61 (Plain.lH h.ty) w) [c14] {tmps:=fF f rb,defers:=[]} w:=by
 have UN:w.cell? ⟨gh,7,none⟩=some (.int .u8 (h.ty.toNat:Int)):=by rw[aG hr];rfl
 have HR:=ah hr;clear hr;unfold fF;rw[h5];simp only[c14,Di,yV,AA,rE,Tryz.f75,Option.getD_some,Sr.gB];by_cases e1:h.ty=120
 .have b1:(((h.ty.toNat:Nat):Int)==120)=true:=by rw[e1];rfl
  have hx:Plain.lH h.ty=true:=by rw[e1];rfl
  rw[hx];clear e1 hx HR;go_wp2
  exact⟨rfl,⟨rfl,rfl,rfl⟩,h5.symm,rfl,rfl,rfl⟩
 .have b1:(((h.ty.toNat:Nat):Int)==120)=false:=Qz h.ty 120 (by omega) e1;by_cases e2:h.ty=103
  .have b2:(((h.ty.toNat:Nat):Int)==103)=true:=by rw[e2];rfl
   have hx:Plain.lH h.ty=true:=by rw[e2];rfl
   rw[hx];clear e1 e2 hx HR;go_wp2
   exact⟨rfl,⟨rfl,rfl,rfl⟩,h5.symm,rfl,rfl,rfl⟩
  .have b2:(((h.ty.toNat:Nat):Int)==103)=false:=Qz h.ty 103 (by omega) e2;by_cases e3:h.ty=76
   .have b3:(((h.ty.toNat:Nat):Int)==76)=true:=by rw[e3];rfl
    have hx:Plain.lH h.ty=true:=by rw[e3];rfl
    rw[hx];clear e1 e2 e3 hx HR;go_wp2
    exact⟨rfl,⟨rfl,rfl,rfl⟩,h5.symm,rfl,rfl,rfl⟩
   .have b3:(((h.ty.toNat:Nat):Int)==76)=false:=Qz h.ty 76 (by omega) e3;by_cases e4:h.ty=75
    .have b4:(((h.ty.toNat:Nat):Int)==75)=true:=by rw[e4];rfl
     have hx:Plain.lH h.ty=true:=by rw[e4];rfl
     rw[hx];clear e1 e2 e3 e4 hx HR;go_wp2
     exact⟨rfl,⟨rfl,rfl,rfl⟩,h5.symm,rfl,rfl,rfl⟩
    .have b4:(((h.ty.toNat:Nat):Int)==75)=false:=Qz h.ty 75 (by omega) e4;have hx:Plain.lH h.ty=false:=by unfold Plain.lH;simp[e1,e2,e3,e4]
     rw[hx];clear e1 e2 e3 e4 hx HR;go_wp2
     exact⟨rfl,⟨rfl,rfl,rfl⟩,h5.symm,rfl,rfl,rfl⟩
theorem acZ(rb gh:Nat)(h:Hd)(f:Nat->Value)(w:World)(h5:f 5=.pointer (some ⟨gh,0,none⟩))(hr:w.heap[gh]? = some (.cells (dQ h) 74)):Sr.gB qp0 (Q14 rb f 83 (decide (48<=h.ty/\h.ty<=54)) w) [c16] {tmps:=fF f rb,defers:=[]} w:=by
 have UN:w.cell? ⟨gh,7,none⟩=some (.int .u8 (h.ty.toNat:Int)):=by rw[aG hr];rfl
 have HR:=ah hr;clear hr;unfold fF;rw[h5];simp only[c16,Cz,Di,yV,AA,rE,Tryz.f75,Option.getD_some,Sr.gB];by_cases e1:48<=h.ty
 .have n1:48<=h.ty.toNat:=e1;have b1:decide ((48:Int)<=((h.ty.toNat:Nat):Int))=true:=decide_eq_true (by omega);have b1':(48:Int)<=((h.ty.toNat:Nat):Int):=by omega
  by_cases e2:h.ty<=54
  .have n2:h.ty.toNat<=54:=e2;have b2':((h.ty.toNat:Nat):Int)<=54:=by omega
   have hx:decide (48<=h.ty/\h.ty<=54)=true:=decide_eq_true ⟨e1,e2⟩;rw[hx];clear e1 e2 hx HR n1 n2;go_wp2
   exact⟨rfl,⟨rfl,rfl,rfl⟩,h5.symm,rfl,rfl,rfl⟩
  .have n2:¬ h.ty.toNat<=54:=e2;have b2':¬ ((h.ty.toNat:Nat):Int)<=54:=by omega
   have hx:decide (48<=h.ty/\h.ty<=54)=false:=decide_eq_false fun x=>e2 x.2
   rw[hx];clear e1 e2 hx HR n1 n2;go_wp2
   exact⟨rfl,⟨rfl,rfl,rfl⟩,h5.symm,rfl,rfl,rfl⟩
 .have n1:¬ 48<=h.ty.toNat:=e1;have b1':¬ (48:Int)<=((h.ty.toNat:Nat):Int):=by omega
  have hx:decide (48<=h.ty/\h.ty<=54)=false:=decide_eq_false fun x=>e1 x.1
  rw[hx];clear e1 hx HR n1;go_wp2
  exact⟨rfl,⟨rfl,rfl,rfl⟩,h5.symm,rfl,rfl,rfl⟩
theorem acS(C:Cn)(rb:Nat)(f:Nat->Value)(w:World)(hb:Bx C rb w):Sr.gB qp0 (Q13 w) [c13] {tmps:=fF f rb,defers:=[]} w:=by
 have hcb:=hb.cell;have HB:=ah hb;clear hb;unfold fF;simp only[c13,Cz,Di,yV,AA,rE,Tryz.f75,Option.getD_some,Sr.gB];go_wp2_with (go_at_call 112;refine(dF _ _ _).mono ?_;rintro e w5 ⟨rfl,rfl⟩)
 exact⟨rfl,rfl⟩
theorem acM(C:Cn)(hC:C.Ok)(A:Ad)(o:Nat)(s:bW)(rb gh:Nat)(h:Hd)(f:Nat->Value)(w:World)(hw:Wk C A o s w)(hb:Bx C rb w)(ho:o+512<=C.dn)(hs0:0<=h.size)(hs1:h.size<=9223372036854775807)(hty:Plain.lH h.ty=true)(h5:f 5=.pointer (some ⟨gh,0,none⟩))(hr:w.heap[gh]? = some (.cells (dQ h) 74)):Sr.gB qp0 (Tj C A o s h rb f w) [c15] {tmps:=fF f rb,defers:=[]} w:=by
 have hcb:=hb.cell;have HB:=ah hb;have HE:=ah (Nv C hC A o h s w hw ho hs0 hs1 hty);have HO:=ah (jP h);have HI:=ah (mo h);clear hb hw hs0 hs1 hty;unfold fF;rw[h5];simp only[c15,Di,yV,AA,rE,Tryz.f75,Option.getD_some,Sr.gB];have hload:=ah hr;unfold AL at HE
 cases hx:Plain.extend C.data C.lim (o+512) h s with
 | error c =>
  rw[hx] at HE;have HX:=ah hx;clear hx;go_wp2_with (first|(with_reducible refine wpList_load_row rfl _ _ rfl gh rfl 74 (dQ h) (0,0) _ hload.out underlying74 rfl HI.out ?_)|(go_at_call 115;refine(HE.out).mono ?_;rintro e w5 ⟨⟨rfl,h3⟩,h4⟩;have qZ:=ah h3;have Wv:=ah h4;clear h3 h4))
  exact Tj.err HX.out Wv.out qZ.out
 | ok s' =>
  rw[hx] at HE;have HX:=ah hx;clear hx;go_wp2_with (first|(with_reducible refine wpList_load_row rfl _ _ rfl gh rfl 74 (dQ h) (0,0) _ hload.out underlying74 rfl HI.out ?_)|(go_at_call 115;refine(HE.out).mono ?_;rintro e w5 ⟨⟨rfl,h3⟩,h4⟩;have qZ:=ah h3;have Wv:=ah h4;clear h3 h4))
  obtain⟨A',hA⟩:=qZ.out;exact Tj.ok HX.out Wv.out hA ⟨rfl,rfl,rfl⟩ rfl
def RY(C:Cn)(A:Ad)(o:Nat)(s:bW)(h:Hd)(rb:Nat)(f:Nat->Value)(w:World)(e:Exit)(a:Act)(w':World):Prop :=gL C w w'/\match Plain.entry C.data (o+512) h s with
  | .error c=>e=.panic (mK c)/\Wk C A o s w'
  | .ok (en,size)=>e=.normal/\Fm rb a/\a.tmps.getD 7 au=.int .i64 size/\∃ (A':Ad)(x:Option Addr×Nat×Nat)(eb:Nat),a.tmps.getD 8 au=.pointer (some ⟨eb,0,none⟩)/\w.heap.size<=eb/\w'.heap[eb]? = some (.cells (sS (en,x)) 42)/\Wk C A' o (Plain.clean s) w'/\iw w' C.w0.heap.size (en,x)
theorem RY.err{C:Cn}{A:Ad}{o:Nat}{s:bW}{h:Hd}{rb:Nat}{f:Nat->Value}{w w':World}{a:Act}{c:Int}(hx:Plain.entry C.data (o+512) h s=.error c)(h1:gL C w w')(h2:Wk C A o s w'):RY C A o s h rb f w (.panic (mK c)) a w':=by
 unfold RY;rw[hx];exact⟨h1,rfl,h2⟩
theorem RY.ok{C:Cn}{A A':Ad}{o:Nat}{s:bW}{h:Hd}{rb:Nat}{f:Nat->Value}{w w':World}{a:Act}{en:En}{size:Int}{x:Option Addr×Nat×Nat}{eb:Nat}(hx:Plain.entry C.data (o+512) h s=.ok (en,size))(h1:gL C w w')(h2:Wk C A' o (Plain.clean s) w')(h3:Fm rb a)(h4:a.tmps.getD 7 au=.int .i64 size)(h5:a.tmps.getD 8 au=.pointer (some ⟨eb,0,none⟩))(h6:w.heap.size<=eb)(h7:w'.heap[eb]? = some (.cells (sS (en,x)) 42))(h8:iw w' C.w0.heap.size (en,x)):RY C A o s h rb f w .normal a w':=by
 unfold RY;rw[hx];exact⟨h1,rfl,h3,h4,A',x,eb,h5,h6,h7,h2,h8⟩
theorem Bv(w:World):Below w.heap.size w (w.alloc (.cells fZ 42)):=(Below.refl _ _).alloc (aY _) _
theorem adr(C:Cn)(hC:C.Ok)(A:Ad)(o:Nat)(s:bW)(rb gh:Nat)(h:Hd)(f:Nat->Value)(w:World)(hw:Wk C A o s w)(hb:Bx C rb w)(ho:o+512<=C.dn)(hn:h.name.length<=140737488351232)(hs0:0<=h.size)(hs1:h.size<=9223372036854775807)(h5:f 5=.pointer (some ⟨gh,0,none⟩))(hr:w.heap[gh]? = some (.cells (dQ h) 74))(hwr:rb≠C.wb)(hmr:rb≠C.mb):Sr.gB qp0 (RY C A o s h rb f w) [c17,c18] {tmps:=fF f rb,defers:=[]} w:=by
 have hw1:=hw.below (Bv w);have hb1:=hb.below (Bv w);have hcb:=hb1.cell;have hrz:(w.alloc (.cells fZ 42)).heap[w.heap.size]? = some (.cells fZ 42):=JL;have HE:=ah (SS C hC A o h s _ hw1 ho hn hs0 hs1);have HCA:Hid (gL C w (w.alloc (.cells fZ 42))):=ah (gL.of (Bv w));have hload:=ah (aU hr (Bv w));have HI:=ah (mo h);have HRZ:=ah hrz;have HW:=ah hw1;have hbase:=hw.bJ.size;have hlt:w.heap.size<(w.alloc (.cells fZ 42)).heap.size:=(fT.1 hrz).1;have HZ:=ah (show(qp0.info? 42).bind (·.zero)=some (.agg fZ) by kernel_rfl);have hwb:w.heap.size≠C.wb:=fun e=>by have:=fT.1 hw.row;obtain⟨h1,_⟩:=this;omega
 have hmb:w.heap.size≠C.mb:=fun e=>by have:=hw.long.lt;omega
 clear hb hb1 hw hw1 hs0 hs1 hrz;unfold fF;rw[h5];simp only[c17,c18,runN,Cz,Di,yV,AA,rE,Tryz.f75,Option.getD_some,Sr.gB];unfold Tz at HE;go_upto_region 18 with(with_reducible refine bV rfl 42 rfl fZ HZ.out ?_)
 generalize w.alloc (.cells fZ 42)=w1 at *
 cases hx:Plain.entry C.data (o+512) h s with
 | error c =>
  rw[hx] at HE;have HX:=ah hx;clear hx;go_wp2_with (first|(with_reducible refine wpList_load_row rfl _ _ rfl gh rfl 74 (dQ h) (0,0) _ hload.out underlying74 rfl HI.out ?_)|(go_at_call 116;refine(HE.out).mono ?_;rintro e w5 ⟨⟨rfl,h3⟩,h4⟩;have qZ:=ah h3;have Wv:=ah h4;clear h3 h4))
  exact RY.err HX.out (HCA.out.trans Wv.out) qZ.out
 | ok es =>
  obtain⟨en,size⟩:=es;rw[hx] at HE;have HX:=ah hx;clear hx;have qh:=ah (fun x:Option Addr×Nat×Nat=>Ov.vD en x.1 x.2.1 x.2.2);have AP:=ah (fun x:Option Addr×Nat×Nat=>Ov.lq en x.1 x.2.1 x.2.2);go_wp2_with (first|(with_reducible refine wpList_load_row rfl _ _ rfl gh rfl 74 (dQ h) (0,0) _ hload.out underlying74 rfl HI.out ?_)|(go_at_call 116;refine(HE.out).mono ?_;rintro e w5 ⟨⟨A',x,rfl,h3,h3'⟩,h4⟩;have qZ:=ah h3;have HO5:=ah h3';have Wv:=ah h4;have EB:Hid (w5.heap[w.heap.size]? = some (.cells fZ 42)):=ah (by rw[h4.block _ hlt hwb hmb];exact HRZ.out);clear h3 h3' h4)|(refine wpList_store_row rfl 42 _ _ rfl w.heap.size rfl (sS (en,x)) rfl fZ 42 EB.out rfl (qh.out x) (AP.out x) ?_))
  have hrx:=Ip EB.out (sS (en,x));have hgx:=qD EB.out (sS (en,x));refine RY.ok HX.out ((HCA.out.trans Wv.out).grow hgx (.inr (.inr (aY _)))) (qZ.out.other EB.out (by decide) (by decide) hbase hgx) ⟨rfl,rfl,rfl⟩ rfl rfl (aY _) hrx (aX HO5.out hgx (Or.inr (aN HO5.out EB.out (by decide))))
def Q20(C:Cn)(A:Ad)(o':Nat)(s:bW)(rb:Nat)(w:World):Exit->Act->World->Prop
 | .normal,a,w'=>Fm rb a/\gL C w w'/\Wk C A o' s w'
 | _,_,_=>False
theorem adz(C:Cn)(hC:C.Ok)(A:Ad)(o:Nat)(s:bW)(rb:Nat)(size:Int)(f:Nat->Value)(w:World)(hw:Wk C A o s w)(hb:Bx C rb w)(h7:f 7=.int .i64 size)(hs:size<9223372036854775808)(hle:Plain.next o size<=C.dn)(h0:0<=Plain.span size):Sr.gB qp0 (Q20 C A (Plain.next o size) s rb w) [c20] {tmps:=fF f rb,defers:=[]} w:=by
 have hcb:=hb.cell;have hc3:w.cell? ⟨C.wb,3,none⟩=some (.int .i64 o):=hw.cell 3;have hf3:=aS hw.row 3;have HSP:=ah (fun wr=>KW size hs wr);have hdn:=hC.dn;have hE:(o:Int)+512*(1+Plain.span size)=(Plain.next o size:Nat):=by unfold Plain.next;omega
 have HE:=ah hE;have UM:Hid (IntKind.i64.wrap ((Plain.next o size:Nat):Int)=(Plain.next o size:Nat)):=ah (IntWalk.i64_in _ (by omega));have hW:=ah hw;have HB:=ah hb;have hsp1:Plain.span size<=274877906944:=by omega
 have hw1:IntKind.i64.wrap (1+Plain.span size)=1+Plain.span size:=IntWalk.i64_in _ (by omega);have hw2:IntKind.i64.wrap (512*(1+Plain.span size))=512*(1+Plain.span size):=IntWalk.i64_in _ (by omega);have hw3:IntKind.i64.wrap ((o:Int)+512*(1+Plain.span size))=(o:Int)+512*(1+Plain.span size):=IntWalk.i64_in _ (by omega);clear hw hb;unfold fF;rw[h7];simp only[c20,yV,AA,rE,Tryz.f75,Option.getD_some,Sr.gB];generalize Plain.span size=sp at *
 refine Oy fun K hK=>?_
 go_region_with (first|(go_at_call 117;refine(HSP.out _).mono ?_;rintro e w5 ⟨rfl,rfl⟩))
 all_goals (
      refine hK _ _ ?_;try rw[UM.out]
      refine⟨⟨rfl,rfl,rfl⟩,(gL.refl C w).grow (w2:=(w.setCell ⟨C.wb,3,none⟩ (.int .i64 ((Plain.next o size:Nat):Int))).drew) ⟨rfl,rfl,rfl,by simp[World.drew],fun i hi hne=>(aD w C.wb 3 _).block i hi hne⟩ (.inl rfl),?_⟩;exact(hW.out.afi hC (Plain.next o size) hle).below ((Below.refl _ _).drew))
end St
end
section
open Go.Conc
open Cc (tp)
namespace St
open Sr (GW WS qY Qt bT)
variable {ε:Nat×Nat}
def pv(b:Nat):Value:=.pointer (some ⟨b,0,none⟩)
def cB(lb qb:Nat):Value:=.func (.func 76) #[] #[pv lb,pv qb]
theorem jR{P:Program}{a:Act}{o:Oper}{x:Operand}{t:TypeId}{ad:Addr}{v:Value}{w:World}(hop:o.op=.load t x)(hx:a.eval x=.pointer (some ad))(ht:∃ U,P.underlying t=some U/\(match U with|.struct _|.array _ _=>False|_=>True))(hc:w.cell? ad=some v):(execOp a.eval o).run P w=.ok (.value v) w/\(execOp a.eval o).events P w #[]=#[⟨.cell ad,false,false⟩]:=by
 obtain⟨U,hU,hn⟩:=ht;simp only[Act.eval,Az] at hx;unfold execOp
 cases U <;> first|exact hn.elim|skip
 all_goals simp[go_sem,hop,hx,Instr.loadAt,Instr.sureAddr,isAgg,run_underlying hU,hc]
theorem nE{P:Program}{a:Act}{o:Oper}{t:TypeId}{x:Operand}(hop:o.op=.load t x){ad:Addr}(hx:a.eval x=.pointer (some ad))(w:World){cs:List Value}{fs:Array Field}(hu:P.underlying t=some (.struct fs))(hi:(P.info? t).map (·.size)=some cs.length)(hc:∀ j v,cs[j]? = some v->w.cell? (ad.add j)=some v):(execOp a.eval o).run P w=.ok (.value (.agg cs.toArray)) w/\∀ ev∈(execOp a.eval o).events P w #[],ev.write=false:=by
 refine⟨?_,?_⟩
 .simp[execOp,hop,hx,Instr.loadAt,Instr.sureAddr,rX t ad cs _ hu rfl hi hc,Result.andThen]
 .intro ev h;simp only[Act.eval,Az] at hx;unfold execOp at h;simp only[hop] at h
  cases hinfo:P.info? t with
  | none=>rw[hinfo] at hi;cases hi
  | some i =>
   rw[hinfo] at hi;simp only[MK,Ba] at hi;simp[go_sem,hx,Instr.loadAt,Instr.sureAddr,isAgg,run_underlying hu,sizeOf,typeInfo,hinfo] at h;obtain⟨Un,_,h2,_⟩:=(events_loadCellsFrom_at ad (fun _=>True) trivial _ 0 _ w #[] (fun j hj=>by
    have hj:j<cs.length:=by omega
    simp only[lU];rw[hc j _ (kM hj)];rfl) ev h).resolve_left (by simp)
   exact h2
section
variable {P:Program}{a:Act}{o:Oper}{x y:Operand}{t:TypeId}
theorem BL{cs:Array Value}(hop:o.op=.box t x)(hx:a.eval x=.agg cs)(w:World):(execOp a.eval o).run P w=.ok (.value (pv w.heap.size)) (w.alloc (.cells cs t))/\(execOp a.eval o).events P w #[]=#[]:=by
 simp only[Act.eval,Az] at hx;unfold execOp;simp[go_sem,hop,hx,Instr.box,newVar,newRow,Value.cells,pv]
theorem Yj{p q:Int}{t':TypeId}(hop:o.op=.binOp .eql t x y t')(hx:a.eval x=.int .i64 p)(hy:a.eval y=.int .i64 q)(ht:P.underlying t=some (.int .i64))(w:World):(execOp a.eval o).run P w=.ok (.value (.bool (p==q))) w/\(execOp a.eval o).events P w #[]=#[]:=by
 simp only[Act.eval,Az] at hx hy;unfold execOp;simp[go_sem,hop,hx,hy,ht,run_underlying ht]
theorem adt{q:Bool}(hop:o.op=.unOp .not t x)(hx:a.eval x=.bool q)(w:World):(execOp a.eval o).run P w=.ok (.value (.bool !q)) w/\(execOp a.eval o).events P w #[]=#[]:=by
 simp only[Act.eval,Az] at hx;unfold execOp;simp[go_sem,hop,hx]
theorem QJ{f:FuncId}{caps:Array Value}{os:Array Operand}{ats:Array TypeId}{fn:Func}{vs:Array Value}(hop:o.op=.call {callee:=.value x,args:=os,argTypes:=ats})(hx:a.eval x=.func (.func f) #[] caps)(hv:os.map a.eval=vs)(hf:P.funcs[f]? = some fn)(hn:(fn.name == "runtime.NumGoroutine")=false)(hb:fn.body.isSome=true)(w:World):(execOp a.eval o).run P w=.ok (.enter f (vs++caps)) w/\(execOp a.eval o).events P w #[]=#[]:=by
 have h1:¬ fn.name = "runtime.NumGoroutine":=by simpa using hn
 have h2:¬ fn.body=none:=by intro h;rw[h] at hb;cases hb
 subst hv;have hr:resolve a.eval {callee:=.value x,args:=os,argTypes:=ats} o.type=pure {target:=.fn (.func f) caps,args:=#[]++os.map a.eval}:=by
  unfold resolve Deferred.ofValue;simp only[hx]
 unfold execOp;simp only[hop];rw[hr];simp[go_sem,invoke,callFunc,hf,h1,h2]
theorem Jk{f:FuncId}{caps:Array Operand}{vs:Array Value}(hop:o.op=.makeFunc (.func f) #[] caps)(hv:caps.map a.eval=vs)(w:World):(execOp a.eval o).run P w=.ok (.value (.func (.func f) #[] vs)) w/\(execOp a.eval o).events P w #[]=#[]:=by
 subst hv;unfold execOp;simp[go_sem,hop,Instr.makeFunc]
theorem Ug{x y z:Operand}{e1 e2:TypeId}{vx vy vz z1 z2:Value}(hop:o.op=.select #[{chan:=x,send:=some y,elem:=e1},{chan:=z,send:=none,elem:=e2}] true)(hx:a.eval x=vx)(hy:a.eval y=vy)(hz:a.eval z=vz)(h1:∀ w,(zeroValue e1).run P w=.ok z1 w/\(zeroValue e1).events P w #[]=#[])(h2:∀ w,(zeroValue e2).run P w=.ok z2 w/\(zeroValue e2).events P w #[]=#[])(w:World):(execOp a.eval o).run P w=.ok (.comm #[{chan:=vx,send:=some vy,zero:=z1},{chan:=vz,send:=none,zero:=z2}] true .select) w/\(execOp a.eval o).events P w #[]=#[]:=by
 subst hx hy hz;unfold execOp;simp only[hop];constructor
 .simp[qaP,qbj,qbs,(h1 _).1,(h2 _).1,Result.andThen]
 .simp[qaP,qbj,qbs,Sem.events_bind,Result.evThen,Result.andThen,(h1 _).2,(h2 _).2,(h1 _).1,(h2 _).1]
end
theorem fin_at{b:Frame}{a:Act}{ops:Array Oper}{i:Nat}{rest:List Nat}{k:List Item}{o:Oper}{v:Value}(ho:ops[i]? = some o):(b.at a (.inRegion ops (i::rest)::k)).finish v=b.at (a.put o.dst v) (.inRegion ops rest::k):=by rw[Frame.finish_at,ho];rfl
noncomputable def emB:Code:=Tryz.f76.body.getD .skip
section
variable {K:Op->Bool}{S:Nat->Prop}{c:Nat}{Sh:Value->Prop}{fU:List Value->World->Prop}
theorem Tv{xs:Array Value}(lb qb:Nat)(w:World)(hl:w.cell? ⟨lb,0,none⟩=some (.chan (some c)))(hq:w.cell? ⟨qb,0,none⟩=some (.chan none))(hS:∀ b,S b->b<w.heap.size)(hxs:xs.size=11){fr:Frame}{cs:List Frame}{m:Nat}{vs:List Value}(hsh:Sh (.agg xs))(hn:WS qp0 (Sr.iM ε) K S c Sh fU m (vs++[.agg xs]) (fr.finish (.bool true)) cs (w.alloc (.cells xs 42))):GW qp0 (Sr.iM ε) S (qY qp0 (Sr.iM ε) K S c Sh fU (m+1) vs) (Frame.enter qp0 76 #[.agg xs,pv lb,pv qb] .normal) (fr::cs) w:=by
 rw[enter_at (P:=qp0) (f:=76) (fn:=Tryz.f76) (c:=emB) #[.agg xs,pv lb,pv qb] func76 rfl];simp only[Tryz.f76,emB,Option.getD_some];have e0:(#[.agg xs,pv lb,pv qb]++Array.replicate (12-#[Value.agg xs,pv lb,pv qb].size) au:Array Value)=#[.agg xs,pv lb,pv qb,au,au,au,au,au,au,au,au,au]:=rfl;rw[e0];refine .seq ?_;refine .region ?_;simp only[rJ,oH,List.length_nil,Nat.reduceAdd,lU,List.range,List.range.loop];refine .val rfl rfl (by decide) (by kernel_rfl) (by simp) (pv w.heap.size) (w.alloc (.cells xs 42)) (fun τ d=>(BL rfl rfl _).1) (fun τ d e he=>by rw[(BL (cs:=xs) rfl rfl _).2] at he;simp at he) ?_ (hf:=Sr.wY hS _);walk_nrm;refine .move rfl rfl (by decide) (by kernel_rfl) (.inr rfl) ?_;walk_nrm;refine .rend ?_;have hbel:Below w.heap.size w (w.alloc (.cells xs 42)):=(Below.refl _ _).alloc (aY _) _;have hl':(w.alloc (.cells xs 42)).cell? ⟨lb,0,none⟩=some (.chan (some c)):=by rw[hbel.cell (World.block_lt_of_cell? (w:=w) (a:=⟨lb,0,none⟩) hl)];exact hl
 have hq':(w.alloc (.cells xs 42)).cell? ⟨qb,0,none⟩=some (.chan none):=by rw[hbel.cell (World.block_lt_of_cell? (w:=w) (a:=⟨qb,0,none⟩) hq)];exact hq
 have hr':(w.alloc (.cells xs 42)).heap[w.heap.size]? = some (.cells xs 42):=JL;generalize hw1:w.alloc (.cells xs 42)=w1 at *
 refine .seq ?_;refine .seq ?_;refine .seq ?_;refine .region ?_;simp only[rJ,oH,List.length_nil,Nat.reduceAdd,lU,List.range,List.range.loop];refine .val rfl rfl (by decide) (by kernel_rfl) (by simp) (.chan (some c)) w1 (fun τ d=>(jR (w:=tp w1 τ d) rfl rfl ⟨_,underlying142,trivial⟩ hl').1) (fun τ d e he=>by rw[(jR (w:=tp w1 τ d) rfl rfl ⟨_,underlying142,trivial⟩ hl').2] at he;simp at he;subst he;exact fun _ _ _=>rfl) ?_;walk_nrm;refine .rend ?_;refine .region ?_;simp only[rJ,oH,List.length_nil,Nat.reduceAdd,lU,List.range,List.range.loop];have hlen:(qp0.info? 42).map (·.size)=some xs.toList.length:=by
  rw[U5,hxs];kernel_rfl
 have hcells:∀ j v,xs.toList[j]? = some v->w1.cell? ((⟨w.heap.size,0,none⟩:Addr).add j)=some v:=fun j v hj=>by
  have hj':xs[j]? = some v:=by rw[<-qaV];exact hj
  have:=Gr.aG hr' j;rw[hj'] at this;have e:(⟨w.heap.size,0,none⟩:Addr).add j=⟨w.heap.size,j,none⟩:=by
   simp only[Addr.add];split
   .rename_i h0;subst h0;rfl
   .simp
  rw[e];exact this
 refine .val rfl rfl (by decide) (by kernel_rfl) (by simp) (.agg xs) w1 (fun τ d=>by
  have:=(nE (P:=qp0) (a:=⟨#[.agg xs,pv lb,pv qb,pv w.heap.size,.bool false,.chan (some c),au,au,au,au,au,au],[]⟩) (o:={dst:=some 6,op:=Op.load 42 (Operand.tmp 3),type:=42,pos := "stream.go:201",after:=#[],guard:=none}) rfl (ad:=⟨w.heap.size,0,none⟩) rfl (tp w1 τ d) underlying42 hlen hcells).1;rw[qbW] at this;exact this) (fun τ d e he=>by
  have:=(nE (P:=qp0) (a:=⟨#[.agg xs,pv lb,pv qb,pv w.heap.size,.bool false,.chan (some c),au,au,au,au,au,au],[]⟩) (o:={dst:=some 6,op:=Op.load 42 (Operand.tmp 3),type:=42,pos := "stream.go:201",after:=#[],guard:=none}) rfl (ad:=⟨w.heap.size,0,none⟩) rfl (tp w1 τ d) underlying42 hlen hcells).2 e he;exact fun _ _ _=>this) ?_
 walk_nrm;refine .rend ?_;refine .region ?_;simp only[rJ,oH,List.length_nil,Nat.reduceAdd,lU,List.range,List.range.loop];refine .val rfl rfl (by decide) (by kernel_rfl) (by simp) (.chan none) w1 (fun τ d=>(jR (w:=tp w1 τ d) rfl rfl ⟨_,underlying141,trivial⟩ hq').1) (fun τ d e he=>by rw[(jR (w:=tp w1 τ d) rfl rfl ⟨_,underlying141,trivial⟩ hq').2] at he;simp at he;subst he;exact fun _ _ _=>rfl) ?_;walk_nrm;refine .rend ?_;refine .seq ?_;refine .region ?_;simp only[rJ,oH,List.length_nil,Nat.reduceAdd,lU,List.range,List.range.loop];have hz1:∀ w,(zeroValue 42).run qp0 w=.ok (.agg fZ) w/\(zeroValue 42).events qp0 w #[]=#[]:=fun w=>by
  have hi:(qp0.info? 42).bind (·.zero)=some (.agg fZ):=by kernel_rfl
  obtain⟨i,hi,h0⟩:=qbc.1 hi;simp[go_sem,zeroValue,typeInfo,hi,h0]
 have hz2:∀ w,(zeroValue 143).run qp0 w=.ok (.agg #[]) w/\(zeroValue 143).events qp0 w #[]=#[]:=fun w=>by
  have hi:(qp0.info? 143).bind (·.zero)=some (.agg #[]):=by kernel_rfl
  obtain⟨i,hi,h0⟩:=qbc.1 hi;simp[go_sem,zeroValue,typeInfo,hi,h0]
 refine .stop fun τ d=>?_
 refine⟨.agg xs,.agg #[],⟨?_,by simp,.agg fZ,#[],?_,by simp⟩,hsh,?_⟩
 .exact Sr.nL rfl (by kernel_rfl) (by simp)
 .have hs:=Ug (P:=qp0) (a:=⟨#[.agg xs,pv lb,pv qb,pv w.heap.size,.bool false,.chan (some c),.agg xs,.chan none,au,au,au,au],[]⟩) (o:={dst:=some 8,op:=Op.select #[{chan:=Operand.tmp 5,send:=some (Operand.tmp 6),elem:=42},{chan:=Operand.tmp 7,send:=none,elem:=143}] true,type:=0,pos := "stream.go:200",after:=#[],guard:=none}) rfl rfl rfl rfl hz1 hz2 (tp w1 τ d);rw[stepG_comm (cases:=#[scase c (.agg xs) (.agg fZ),rcaseNil (.agg #[])]) (blocking:=true) (shape:=.select) (w':=tp w1 τ d) rfl rfl (by decide) hs.1,listed_none hs.2]
 .refine(Sr.gT ..).2 ?_;refine GW.zl (w:=w1) ?_ τ d;rw[fin_at rfl];walk_nrm;refine .still (i:=1) rfl rfl (by decide) (by kernel_rfl) (by simp) (goInt 0) (fun ω=>Cc.eP rfl rfl rfl ω) ?_;walk_nrm;refine .still rfl rfl (by decide) (by kernel_rfl) (by simp) _ (fun ω=>Yj (p:=0) (q:=0) rfl rfl rfl underlying3 ω) ?_;walk_nrm;refine .still rfl rfl (by decide) (by kernel_rfl) (by simp) _ (fun ω=>Yj (p:=0) (q:=1) rfl rfl rfl underlying3 ω) ?_;walk_nrm;refine .rend ?_;refine .block ?_;refine .cond (t:=true) rfl ?_;simp only[if_true];refine .seq ?_;refine .region ?_;simp only[rJ,oH,List.length_nil,Nat.reduceAdd,lU,List.range,List.range.loop];refine .move rfl rfl (by decide) (by kernel_rfl) (.inr rfl) ?_;walk_nrm;refine .rend ?_;refine .ret ?_;refine .leave (v:=.bool true) rfl rfl func76 (fun w=>?_) ?_
  .simp[results,Tryz.f76]
  .exact(Sr.gT ..).1 hn
theorem getD_set_ne{t:Array Value}{i j:Nat}{v:Value}(h:i≠j):(t.setIfInBounds i v).getD j au=t.getD j au:=by
 rw[Az,Az,ow h]
theorem gq{t:Array Value}{i:Nat}{v:Value}(h:i<t.size):(t.setIfInBounds i v).getD i au=v:=by
 rw[Az,Sn h];rfl
def handed(t:Array Value)(E v:Value):Array Value:=(((t.setIfInBounds 98 E).setIfInBounds 99 v).setIfInBounds 100 (.bool true)).setIfInBounds 101 (.bool false)
def bR:Frame:=base 75
theorem Uc{xs:Array Value}(lb qb eb:Nat)(w:World)(t:Array Value)(ds:List Deferred)(ht:t.size=113)(h1:t.getD 1 au=cB lb qb)(h8:t.getD 8 au=pv eb)(hr:w.heap[eb]? = some (.cells xs 42))(hl:w.cell? ⟨lb,0,none⟩=some (.chan (some c)))(hq:w.cell? ⟨qb,0,none⟩=some (.chan none))(hS:∀ b,S b->b<w.heap.size)(hxs:xs.size=11){k:List Item}{cs:List Frame}{m:Nat}{vs:List Value}(hsh:Sh (.agg xs))(hn:WS qp0 (Sr.iM ε) K S c Sh fU m (vs++[.agg xs]) (bR.at ⟨handed t (cB lb qb) (.agg xs),ds⟩ k) cs (w.alloc (.cells xs 42))):GW qp0 (Sr.iM ε) S (qY qp0 (Sr.iM ε) K S c Sh fU (m+1) vs) (bR.at ⟨t,ds⟩ (.code runM::k)) cs w:=by
 simp only[runM,runN,Cz,Di,yV,AA,rE,Tryz.f75,Option.getD_some];refine .seq ?_;refine .region ?_;simp only[rJ,oH,List.length_nil,Nat.reduceAdd,lU,List.range,List.range.loop];refine .move rfl rfl (by decide) (by kernel_rfl) (.inl rfl) ?_;have e1:(⟨t,ds⟩:Act).eval (.tmp 1)=cB lb qb:=h1;rw[e1];have hlen:(qp0.info? 42).map (·.size)=some xs.toList.length:=by
  rw[U5,hxs];kernel_rfl
 have hcells:∀ j v,xs.toList[j]? = some v->w.cell? ((⟨eb,0,none⟩:Addr).add j)=some v:=fun j v hj=>by
  have hj':xs[j]? = some v:=by rw[<-qaV];exact hj
  have:=Gr.aG hr j;rw[hj'] at this;have e:(⟨eb,0,none⟩:Addr).add j=⟨eb,j,none⟩:=by
   simp only[Addr.add];split
   .rename_i h0;subst h0;rfl
   .simp
  rw[e];exact this
 have e8:(⟨t.setIfInBounds 98 (cB lb qb),ds⟩:Act).eval (.tmp 8)=.pointer (some ⟨eb,0,none⟩):=by
  show(t.setIfInBounds 98 (cB lb qb)).getD 8 au=_;rw[getD_set_ne (by decide)];exact h8
 have hld:=fun τ d=>nE (P:=qp0) (a:=⟨t.setIfInBounds 98 (cB lb qb),ds⟩) (o:={dst:=some 99,op:=Op.load 42 (Operand.tmp 8),type:=42,pos := "stream.go:177",after:=#[],guard:=none}) rfl e8 (tp w τ d) underlying42 hlen hcells
 rw[qbW] at hld;refine .val rfl rfl (by decide) (by kernel_rfl) (by simp) (.agg xs) w (fun τ d=>(hld τ d).1) (fun τ d e he=>fun _ _ _=>(hld τ d).2 e he) ?_;have e98:(⟨(t.setIfInBounds 98 (cB lb qb)).setIfInBounds 99 (.agg xs),ds⟩:Act).eval (.tmp 98)=cB lb qb:=by
  show((t.setIfInBounds 98 (cB lb qb)).setIfInBounds 99 (.agg xs)).getD 98 au=_;rw[getD_set_ne (by decide),gq (by omega)]
 have e99:#[Operand.tmp 99].map (⟨(t.setIfInBounds 98 (cB lb qb)).setIfInBounds 99 (.agg xs),ds⟩:Act).eval=#[.agg xs]:=by
  have:(⟨(t.setIfInBounds 98 (cB lb qb)).setIfInBounds 99 (.agg xs),ds⟩:Act).eval (.tmp 99)=.agg xs:=by
   show((t.setIfInBounds 98 (cB lb qb)).setIfInBounds 99 (.agg xs)).getD 99 au=_;rw[gq (by simp;omega)]
  simp only[List.map_toArray,qcf,List.map_nil,this]
 refine .enter rfl rfl (by decide) (by kernel_rfl) (by simp) 76 #[.agg xs,pv lb,pv qb] (fun ω=>QJ (vs:=#[.agg xs]) rfl e98 e99 func76 (by decide) rfl ω) ?_;refine Tv lb qb w hl hq hS hxs hsh ((Sr.gT ..).2 ?_);rw[fin_at rfl];have e100:(⟨((t.setIfInBounds 98 (cB lb qb)).setIfInBounds 99 (.agg xs)).setIfInBounds 100 (.bool true),ds⟩:Act).eval (.tmp 100)=.bool true:=by
  show(((t.setIfInBounds 98 (cB lb qb)).setIfInBounds 99 (.agg xs)).setIfInBounds 100 (.bool true)).getD 100 au=_;rw[gq (by simp;omega)]
 refine .still rfl rfl (by decide) (by kernel_rfl) (by simp) (.bool false) (fun ω=>adt (q:=true) rfl e100 ω) ?_;refine .rend ?_;have agY:(⟨handed t (cB lb qb) (.agg xs),ds⟩:Act).eval (.tmp 101)=.bool false:=by
  show(handed t (cB lb qb) (.agg xs)).getD 101 au=_;unfold handed;rw[gq (by simp;omega)]
 refine .cond (t:=false) agY ?_;simp only[jI,if_false];refine .skip ?_;exact(Sr.gT ..).1 hn
end
end St
end
section
open Go.Conc
open Cc (tp)
namespace St
open Sr (GW WS qY Qt bT gB dR fQ bU)
open Gr (gJ aN)
def Cn.tp(C:Cn)(τ:Nat->Question->Nat):Cn:={C with w0:=Cc.tp C.w0 τ 0}
theorem Cn.Ok.tp{C:Cn}(h:C.Ok)(τ:Nat->Question->Nat):(C.tp τ).Ok:=⟨h.dat,h.dn,h.wb,h.mb,h.ne,h.ml,h.er,h.pw,h.lim⟩
section
variable {C:Cn}{A:Ad}{o:Nat}{s:bW}{w w':World}{τ jH:Nat->Question->Nat}{d d':Nat}
theorem Wk.shift(h:Wk (C.tp τ) A o s w)(jH:Nat->Question->Nat)(d':Nat):Wk (C.tp jH) A o s (Cc.tp w jH d') :=⟨⟨h.bJ.os,rfl,h.bJ.output,h.bJ.size,h.bJ.block⟩,h.row,h.glob,h.loc,h.long,h.gb,h.lb,h.fit,h.Zv⟩
theorem gL.shift(h:gL (C.tp τ) (Cc.tp w τ d) w')(jH:Nat->Question->Nat)(d1 d':Nat):gL (C.tp jH) (Cc.tp w jH d1) (Cc.tp w' jH d'):=⟨h.os,rfl,h.output,h.size,h.block⟩
theorem Q1.shift{rb:Nat}{e:Exit}{a:Act}(h:Q1 (C.tp τ) A o s rb (Cc.tp w τ d) e a w')(jH:Nat->Question->Nat)(d':Nat):Q1 (C.tp jH) A o s rb (Cc.tp w jH 0) e a (Cc.tp w' jH d'):=by
 obtain⟨h1,h2,h3⟩:=h;refine⟨h1,h2.shift ..,?_⟩
 cases e with
 | panic ch=>obtain⟨c,h4,h5,h6,h7⟩:=h3;exact⟨c,h4,h5,h6,h7.shift ..⟩
 | ret=>exact⟨h3.1,h3.2.shift ..⟩
 | normal=>obtain⟨h,gh,k1,k2,k3,k4⟩:=h3;exact⟨h,gh,k1,k2,k3.shift ..,k4⟩
 | _=>exact h3.elim
theorem Tj.shift{h:Hd}{rb:Nat}{f:Nat->Value}{e:Exit}{a:Act}(hh:Tj (C.tp τ) A o s h rb f (Cc.tp w τ d) e a w')(jH:Nat->Question->Nat)(d':Nat):Tj (C.tp jH) A o s h rb f (Cc.tp w jH 0) e a (Cc.tp w' jH d'):=by
 obtain⟨h1,h2⟩:=hh;have e1:(C.tp τ).data=C.data:=rfl;have e2:(C.tp τ).lim=C.lim:=rfl;rw[e1,e2] at h2;refine⟨h1.shift ..,?_⟩;show match Plain.extend C.data C.lim (o+512) h s with|.error c=>_|.ok s'=>_
 cases hx:Plain.extend C.data C.lim (o+512) h s with
 | error c=>rw[hx] at h2;exact⟨h2.1,h2.2.shift ..⟩
 | ok s'=>rw[hx] at h2;obtain⟨h3,h4,h5,A',h6⟩:=h2;exact⟨h3,h4,h5,A',h6.shift ..⟩
theorem RY.shift{h:Hd}{rb:Nat}{f:Nat->Value}{e:Exit}{a:Act}(hh:RY (C.tp τ) A o s h rb f (Cc.tp w τ d) e a w')(jH:Nat->Question->Nat)(d':Nat):RY (C.tp jH) A o s h rb f (Cc.tp w jH 0) e a (Cc.tp w' jH d'):=by
 obtain⟨h1,h2⟩:=hh;have e1:(C.tp τ).data=C.data:=rfl;rw[e1] at h2;refine⟨h1.shift ..,?_⟩;show match Plain.entry C.data (o+512) h s with|.error c=>_|.ok (en,size)=>_
 cases hx:Plain.entry C.data (o+512) h s with
 | error c=>rw[hx] at h2;exact⟨h2.1,h2.2.shift ..⟩
 | ok es =>
  obtain⟨en,size⟩:=es;rw[hx] at h2;obtain⟨h3,h4,h5,A',x,eb,h6,h7,h8,h9,h10⟩:=h2;exact⟨h3,h4,h5,A',x,eb,h6,h7,h8,h9.shift ..,h10⟩
theorem Q20.shift{rb:Nat}{e:Exit}{a:Act}(hh:Q20 (C.tp τ) A o s rb (Cc.tp w τ d) e a w')(jH:Nat->Question->Nat)(d':Nat):Q20 (C.tp jH) A o s rb (Cc.tp w jH 0) e a (Cc.tp w' jH d'):=by
 cases e with
 | normal=>obtain⟨h1,h2,h3⟩:=hh;exact⟨h1,h2.shift ..,h3.shift ..⟩
 | _=>exact hh.elim
end
theorem iH{P:Program}{Q Q':Exit->Act->World->Prop}(h:∀ e a w,Q e a w->Q' e a w):∀ {l:List Code}{a:Act}{w:World},gB P Q l a w->gB P Q' l a w
 | [],a,w,hs=>h _ _ _ hs
 | c::l,a,w,hs=>wp_mono hs fun e a w he=>by
  cases e with
  | normal=>exact iH h he
  | _=>exact h _ _ _ he
def Gp(C:Cn)(w:World)(F:Cn->World->Exit->Act->World->Prop)(e:Exit)(a:Act)(w':World):Prop:=∀ τ d,F (C.tp τ) (tp w τ 0) e a (tp w' τ d)
theorem Gp.tp{C:Cn}{w:World}{F:Cn->World->Exit->Act->World->Prop}{e:Exit}{a:Act}{w':World}(τ:Nat->Question->Nat)(d:Nat)(h:Gp C w F e a w'):Gp C w F e a (Cc.tp w' τ d):=fun jH d'=>h jH d'
theorem Gp.now{C:Cn}{w:World}{F:Cn->World->Exit->Act->World->Prop}{e:Exit}{a:Act}{w':World}(h:Gp C w F e a w'):F (C.tp w'.tape) (Cc.tp w w'.tape 0) e a w':=h w'.tape w'.drawn
end St
end
section
open Go.Conc
open Cc (tp)
namespace St
open Sr (GW WS qY Qt bT gB dR fQ bU over iM dW kW uE oN)
open Gr (gJ aN)
theorem Yi(l:List UInt8)(s e:Nat):(eH l s e).length<=e-s:=by unfold eH;rw[zW,zQ];omega
theorem Um{l:List UInt8}{h:Hd}(hr:Plain.hread l=(h,0)):0<=h.size/\h.size<=9223372036854775807/\h.name.length<=140737488351232:=by
 refine⟨Plain.Cy hr,?_,?_⟩
 .unfold Plain.hread at hr;split at hr
  .cases hr
  .split at hr
   .cases hr
   .split at hr
    .cases hr
    .rename_i h3
     simp only[MV,and_true] at hr;subst hr;have h4:nK l=true:=by simpa using h3
     unfold nK at h4;simp only[fE] at h4;have h5:=h4.1.1.2;unfold rQ at h5;have h6:=of_decide_eq_true h5;unfold NQ;simp only
     split
     .omega
     .exact h6.2.2
 .unfold Plain.hread at hr;split at hr
  .cases hr
  .split at hr
   .cases hr
   .split at hr
    .cases hr
    .simp only[MV,and_true] at hr;subst hr;show(nameOf l).length<=_;have h1:=tT (Plain.sU (eH l 345 500)) (Yi l 345 500);have h2:=tT (Plain.sU (eH l 0 100)) (Yi l 0 100);unfold nameOf;split
     .rw[vG,oH];omega
     .omega
structure Fx(C:Cn)(rb lb qb c:Nat)(w:World):Prop where
 bx:Bx C rb w
 r1:rb≠C.wb
 r2:rb≠C.mb
 l:w.cell? ⟨lb,0,none⟩=some (.chan (some c))
 l1:lb≠C.wb
 l2:lb≠C.mb
 q:w.cell? ⟨qb,0,none⟩=some (.chan none)
 q1:qb≠C.wb
 q2:qb≠C.mb
theorem Mt{C:Cn}{w w':World}(k:gL C w w'){a:Addr}{v:Value}(h:w.cell? a=some v)(h1:a.block≠C.wb)(h2:a.block≠C.mb):w'.cell? a=some v:=by
 have e:=k.block a.block (World.block_lt_of_cell? (w:=w) (a:=a) h) h1 h2;unfold World.cell? at h ⊢;rw[e];exact h
theorem Fx.chg{C:Cn}{rb lb qb c:Nat}{w w':World}{τ:Nat->Question->Nat}{d:Nat}(h:Fx C rb lb qb c w)(k:gL (C.tp τ) (tp w τ d) w'):Fx C rb lb qb c w' :=⟨⟨by have:=k.block rb (fT.1 h.bx.row).1 h.r1 h.r2;rw[this];exact h.bx.row⟩,h.r1,h.r2,Mt k (a:=⟨lb,0,none⟩) h.l h.l1 h.l2,h.l1,h.l2,Mt k (a:=⟨qb,0,none⟩) h.q h.q1 h.q2,h.q1,h.q2⟩
theorem Fx.tp{C:Cn}{rb lb qb c:Nat}{w:World}(h:Fx C rb lb qb c w)(τ:Nat->Question->Nat)(d:Nat):Fx C rb lb qb c (tp w τ d):=⟨⟨h.bx.row⟩,h.r1,h.r2,h.l,h.l1,h.l2,h.q,h.q1,h.q2⟩
theorem Fx.below{C:Cn}{rb lb qb c:Nat}{w w':World}(h:Fx C rb lb qb c w)(k:Below w.heap.size w w'):Fx C rb lb qb c w' :=⟨h.bx.below k,h.r1,h.r2,by rw[k.cell (World.block_lt_of_cell? (w:=w) (a:=⟨lb,0,none⟩) h.l)];exact h.l,h.l1,h.l2,by rw[k.cell (World.block_lt_of_cell? (w:=w) (a:=⟨qb,0,none⟩) h.q)];exact h.q,h.q1,h.q2⟩
def qH(w:World)(B:Nat)(vs:List Value)(es:List En):Prop:=vs.length=es.length/\∀ (i:Nat)(v:Value)(e:En),vs[i]? = some v->es[i]? = some e->∃ x:Option Addr×Nat×Nat,v=Value.agg (sS (e,x))/\iw w B (e,x)
theorem qH.nil(w:World)(B:Nat):qH w B [] []:=⟨rfl,fun i v e h _=>by simp at h⟩
theorem qH.snoc{w:World}{B:Nat}{vs:List Value}{es:List En}(h:qH w B vs es){e:En}{x:Option Addr×Nat×Nat}(ho:iw w B (e,x)):qH w B (vs++[.agg (sS (e,x))]) (es++[e]):=by
 refine⟨by simp[h.1],fun i v e' hv he=>?_⟩;rw[List.getElem?_append] at hv he;have hl:=h.1;by_cases hi:i<vs.length
 .rw[if_pos hi] at hv;rw[if_pos (by omega)] at he;exact h.2 i v e' hv he
 .rw[if_neg hi] at hv;rw[if_neg (by omega)] at he;rw[hl] at hv;generalize i-es.length=j at hv he
  cases j with
  | zero=>simp at hv he;subst hv he;exact⟨x,rfl,ho⟩
  | succ j=>simp at hv
theorem qH.keep{w w':World}{B:Nat}{vs:List Value}{es:List En}(h:qH w B vs es)(k:∀ e x,iw w B (e,x)->iw w' B (e,x)):qH w' B vs es :=⟨h.1,fun i v e hv he=>let ⟨x,h1,h2⟩:=h.2 i v e hv he;⟨x,h1,k e x h2⟩⟩
theorem Bu{C:Cn}{A:Ad}{o:Nat}{s:bW}{w w':World}{τ:Nat->Question->Nat}{d:Nat}(hw:Wk (C.tp τ) A o s (tp w τ d))(k:gL (C.tp τ) (tp w τ d) w'){B:Nat}(e:En)(x:Option Addr×Nat×Nat)(h:iw w B (e,x)):iw w' B (e,x):=by
 have h':iw (tp w τ d) B (e,x):=h;refine gJ h' fun b hb=>k.block b (h'.lt b hb).2 (fun e1=>?_) fun e1=>?_
 .exact aN h' hw.row (by decide) (by rw[hb];exact congrArg some e1)
 .exact Gr.Mp.yU hw.long h' (by rw[hb];exact congrArg some e1.symm)
theorem Pg{w w':World}(k:Below w.heap.size w w'){B:Nat}(e:En)(x:Option Addr×Nat×Nat)(h:iw w B (e,x)):iw w' B (e,x):=gJ h fun b hb=>k.block b (h.lt b hb).2
noncomputable def LB:Code:=match rE with|.seq _ (.seq _ (.block _ (.loop c)))=>c|_=>.skip
theorem aeT:LB=.block 1 AA:=by kernel_rfl
theorem aaz:AA=dR DN yV:=by kernel_rfl
theorem abq:yV=.seq (.block 2 Di) c20:=by kernel_rfl
theorem aah:Di=.seq c14 (.cond (.tmp 61) c15 Cz):=by kernel_rfl
theorem Z6:Cz=.seq c16 (.cond (.tmp 83) runN c13):=by kernel_rfl
theorem aag:runN=dR [c17,c18] runM:=by kernel_rfl
def mk(lb qb:Nat)(F9 x:Value):List (Nat×Value):=[(1,cB lb qb),(9,F9),(98,x)]
theorem mM(lb qb:Nat)(F9 x:Value)(t:Array Value):over (mk lb qb F9 x) t=((t.setIfInBounds 1 (cB lb qb)).setIfInBounds 9 F9).setIfInBounds 98 x:=rfl
theorem NS{lb qb:Nat}{F9 x:Value}{t:Array Value}{i:Nat}(h1:1≠i)(h9:9≠i)(h98:98≠i):(over (mk lb qb F9 x) t).getD i au=t.getD i au:=by
 rw[mM,getD_set_ne h98,getD_set_ne h9,getD_set_ne h1]
theorem mk_one{lb qb:Nat}{F9 x:Value}{t:Array Value}(ht:t.size=113):(over (mk lb qb F9 x) t).getD 1 au=cB lb qb:=by
 rw[mM,getD_set_ne (by decide),getD_set_ne (by decide),gq (by omega)]
theorem aa8{lb qb:Nat}{F9 x:Value}{t:Array Value}:(over (mk lb qb F9 x) t).size=t.size:=by rw[mM];simp
theorem TP{lb qb:Nat}{F9 x v:Value}{t:Array Value}:handed (over (mk lb qb F9 x) t) (cB lb qb) v=over (mk lb qb F9 (cB lb qb)) (((t.setIfInBounds 99 v).setIfInBounds 100 (.bool true)).setIfInBounds 101 (.bool false)):=by
 rw[mM,mM];unfold handed;apply TS
 .simp
 .intro i h1 h2;have key:∀ j:Nat,(handed (over (mk lb qb F9 x) t) (cB lb qb) v)[j]? = (over (mk lb qb F9 (cB lb qb)) (((t.setIfInBounds 99 v).setIfInBounds 100 (.bool true)).setIfInBounds 101 (.bool false)))[j]?:=fun j=>by
   unfold handed;rw[mM,mM];simp only[qa2,qb5];by_cases h1:1=j
   .subst h1;simp
   .by_cases h2:9=j
    .subst h2;simp
    .by_cases h3:98=j
     .subst h3;simp
     .by_cases h4:99=j
      .subst h4;simp
      .simp[h1,h2,h3,h4]
  have:=key i;unfold handed at this;rw[mM,mM] at this;rw[mJ h1,mJ h2] at this;exact pQ this
end St
end
section
open Go.Conc
open Cc (tp)
namespace St
open Sr (GW WS qY Qt bT kg vB fK Tk gB dR fQ bU over iM dW kW uE oN)
open Gr (gJ aN)
variable {ε:Nat×Nat}
theorem Vn:vB qp0 (dW ε) kW:=Sr.aeo ε
theorem Ud:∀ f,(dW ε) f=true->fK qp0 f:=Sr.adH ε
theorem WG:Tk qp0 (dW ε) kW:=Sr.ae3 ε
theorem I6:∀ f,(dW ε) f=true->(iM ε) f=true:=Sr.Rc ε
theorem H7:∀ t:Nat,(iM ε) (2*t+1000000000)=true->(dW ε) (2*t+1000000000)=true:=Sr.Vy ε
section
variable (lb qb:Nat)(F9 x:Value)
theorem Sd:kg qp0 (dW ε) Sr.kW [] (dR DN (.refuse ""))=true:=by kernel_rfl
theorem Qc:kg qp0 (dW ε) Sr.kW (mk lb qb F9 x) (dR DN (.refuse ""))=true:=by kernel_rfl
theorem afb:kg qp0 (dW ε) Sr.kW [] (dR [c14] (.refuse ""))=true:=by kernel_rfl
theorem adX:kg qp0 (dW ε) Sr.kW (mk lb qb F9 x) (dR [c14] (.refuse ""))=true:=by kernel_rfl
theorem ae0:kg qp0 (dW ε) Sr.kW [] (dR [c16] (.refuse ""))=true:=by kernel_rfl
theorem acI:kg qp0 (dW ε) Sr.kW (mk lb qb F9 x) (dR [c16] (.refuse ""))=true:=by kernel_rfl
theorem afz:kg qp0 (dW ε) Sr.kW [] (dR [c17,c18] (.refuse ""))=true:=by kernel_rfl
theorem adl:kg qp0 (dW ε) Sr.kW (mk lb qb F9 x) (dR [c17,c18] (.refuse ""))=true:=by kernel_rfl
theorem aeC:kg qp0 (dW ε) Sr.kW [] c15=true:=by kernel_rfl
theorem acs:kg qp0 (dW ε) Sr.kW (mk lb qb F9 x) c15=true:=by kernel_rfl
theorem afW:kg qp0 (dW ε) Sr.kW [] c13=true:=by kernel_rfl
theorem acG:kg qp0 (dW ε) Sr.kW (mk lb qb F9 x) c13=true:=by kernel_rfl
theorem afu:kg qp0 (dW ε) Sr.kW [] c20=true:=by kernel_rfl
theorem adf:kg qp0 (dW ε) Sr.kW (mk lb qb F9 x) c20=true:=by kernel_rfl
end
theorem Bz(c:Int):uE qp0 (.panic (mK c)):=by
 intro v g h hb;unfold mK at h;simp only[qbo,PanicEntry.mk.injEq,and_true] at h;obtain⟨h1,_⟩:=h;subst h1;rcases hb with h|⟨u,h⟩
 .cases h
 .injection h with h1 h2;have hb:(179==qp0.rt.panicNilError)=false:=by kernel_rfl
  rw[<-h1] at hb;simp at hb
def Yu(ε:Nat×Nat)(C:Cn)(rb lb qb c:Nat)(F9:Value)(ds:List Deferred)(S:Nat->Prop)(code:Int)(off:Nat)(held:Int)(vs:List Value)(es:List En)(fr:Frame)(w:World):Prop :=∃ (t:Array Value)(x:Value)(todo:List Item)(A:Ad)(s:bW)(D:Nat->Prop),s.held=held/\Wk (C.tp w.tape) A off s w/\Fx C rb lb qb c w/\qH w C.w0.heap.size vs es/\bU qp0 (dW ε) S D t w/\D rb /\
  ((code≠0/\fr={bR.at ⟨over (mk lb qb F9 x) t,ds⟩ todo with mode:=.panicking (mK code)})\/(code=0/\fr={bR.at ⟨over (mk lb qb F9 x) t,ds⟩ todo with mode:=.returning}))
def H14(rb:Nat)(f:Nat->Value)(t:Nat)(x:Bool)(w:World)(e:Exit)(a:Act)(w':World):Prop :=e=.normal/\Fm rb a/\a.tmps.getD 5 au=f 5/\a.tmps.getD 7 au=f 7/\a.tmps.getD t au=.bool x/\∃ τ d,w'=tp w τ d
theorem H14.of{rb:Nat}{f:Nat->Value}{t:Nat}{x:Bool}{w:World}{τ:Nat->Question->Nat}{d:Nat}{e:Exit}{a:Act}{w':World}(h:Q14 rb f t x (tp w τ d) e a w'):H14 rb f t x w e a w':=by
 obtain⟨h1,h2,h3,h4,h5,h6⟩:=h;exact⟨h1,h2,h3,h4,h5,τ,d,h6⟩
def H13(w:World)(e:Exit)(a:Act)(w':World):Prop:=e=.panic (mK 73)/\∃ τ d,w'=tp w τ d
theorem GL{P:Program}{L:FuncId->Bool}{S D:Nat->Prop}{t:Array Value}{w:World}{τ:Nat->Question->Nat}{d:Nat}(h:bU P L S D t (tp w τ d)):bU P L S D t w:=⟨h.off,h.gb,h.bnd,h.heap,h.tmps⟩
theorem YB{P:Program}{L:FuncId->Bool}{S D:Nat->Prop}{t:Array Value}{w:World}(h:bU P L S D t w){j eb:Nat}{xs:Array Value}{ty:TypeId}(hj:t.getD j au=.pointer (some ⟨eb,0,none⟩))(hr:w.heap[eb]? = some (.cells xs ty)):Sr.VR (Sr.mQ D) L (.agg xs) (.agg xs):=by
 have h1:=h.tmps.getD j Sr.dG;rw[hj] at h1
 cases h1 with
 | ptr _ _ hab =>
  have h2:=h.heap _ _ hab.1;rw[hr] at h2
  cases h2 with
  | some h3=>cases h3 with
   | cells _ _ _ _ AY=>exact .agg _ _ AY.1 AY.2
theorem su{P:Program}{L:FuncId->Bool}{S D:Nat->Prop}{t:Array Value}{w:World}(h:bU P L S D t w){j b:Nat}(hj:t.getD j au=.pointer (some ⟨b,0,none⟩)):D b:=by
 have h1:=h.tmps.getD j Sr.dG;rw[hj] at h1
 cases h1 with
 | ptr _ _ hab=>exact hab.1.2
theorem Oq{P:Program}{L:FuncId->Bool}{S D:Nat->Prop}{t:Array Value}{w:World}(h:bU P L S D t w)(ob:Obj):bU P L S D t (w.alloc ob):=by
 have hsz:(w.alloc ob).heap.size=w.heap.size+1:=qb3 ..;have hb:∀ i,i<w.heap.size->(w.alloc ob).heap[i]? = w.heap[i]?:=fun i hi=>by
  have:=(Below.refl w.heap.size w).alloc (aY _) ob;exact this.block i hi
 refine⟨fun b hS=>⟨(h.off b hS).1,by have:=(h.off b hS).2;omega⟩,h.gb,fun a ha=>by have:=h.bnd a ha;omega,⟨fun a b hab=>?_,fun b Zh=>?_,h.heap.Af⟩,h.tmps⟩
 .have h1:=h.bnd a hab.2;have h2:b<w.heap.size:=by have:=hab.1;subst this;exact h1
  rw[hb a h1,hb b h2];exact h.heap a b hab
 .obtain⟨x,e,h1,h2⟩:=h.heap.opq b Zh;have:=hb b (fT.1 h1).1;exact⟨x,e,this.trans h1,this.trans h2⟩
theorem BD{P:Program}{L:FuncId->Bool}{S D:Nat->Prop}{t:Array Value}{w:World}(h:bU P L S D t w)(j:Nat){v:Value}(hv:Sr.VR (Sr.mQ D) L v v):bU P L S D (t.setIfInBounds j v) w:=⟨h.off,h.gb,h.bnd,h.heap,h.tmps.set j hv⟩
section
variable {S:Nat->Prop}{c:Nat}{Φ:Frame->List Frame->World->Prop}
theorem XD{C:Cn}(hC:C.Ok)(rb lb qb:Nat)(F9 x:Value)(ds:List Deferred){cs:List Frame}(hB:cs≠[]){o:Nat}{s:bW}{A:Ad}{w:World}{D:Nat->Prop}{t:Array Value}{vs:List Value}{es:List En}{size:Int}(hw:Wk (C.tp w.tape) A o s w)(hx:Fx C rb lb qb c w)(hes:qH w C.w0.heap.size vs es)(hst:bU qp0 (dW ε) S D t w)(ht:t.size=113)(ht2:t.getD 2 au=.pointer (some ⟨rb,0,none⟩))(h7:t.getD 7 au=.int .i64 size)(hs:size<9223372036854775808)(hle:Plain.next o size<=C.dn)(next:∀ (w':World)(D':Nat->Prop)(t':Array Value),Wk (C.tp w'.tape) A (Plain.next o size) s w'->Fx C rb lb qb c w'->qH w' C.w0.heap.size vs es->bU qp0 (dW ε) S D' t' w'->t'.size=113->t'.getD 2 au=.pointer (some ⟨rb,0,none⟩)->GW qp0 (iM ε) S Φ (bR.at ⟨over (mk lb qb F9 x) t',ds⟩ [.code LB,.inLoop LB,.inBlock 0]) cs w'):GW qp0 (iM ε) S Φ (bR.at ⟨over (mk lb qb F9 x) t,ds⟩ [.code c20,.inBlock 1,.inLoop LB,.inBlock 0]) cs w:=by
 refine GW.pt (Q:=Gp C w (fun C' w'=>Q20 C' A (Plain.next o size) s rb w')) (r:=.inr 1) (a:=⟨t,[]⟩) I6 H7 Vn Ud WG ds (mk lb qb F9 x) (.inl rfl) rfl afu (adf lb qb F9 x) hB hst (fun τ d=>?_) (fun e a' w' hq=>?_) (fun e a' w' τ d hq=>hq.tp τ d) fun e a' fr w1 D1 hq ME hD1 hat=>?_
 .have h1:=adz (C.tp τ) (hC.tp τ) A o s rb size (fun i=>t.getD i au) (tp w τ d) (hw.shift τ d) ⟨hx.bx.row⟩ h7 hs hle (Plain.gy _);rw[<-nR t rb ht ht2] at h1;exact iH (fun e a w' hq jH d'=>hq.shift jH d') h1
 .have hq:=hq.now
  cases e with
  | normal=>trivial
  | _=>exact hq.elim
 .have hq1:=hq.now
  cases e with
  | normal =>
   obtain⟨hfm,hch,hwk⟩:=hq1
   cases hat
   refine .inBlock ?_;refine .inLoop ?_;exact next w1 D1 a'.tmps hwk (hx.chg hch) (hes.keep fun e x=>Bu (hw.shift w1.tape 0) hch e x) ME hfm.size hfm.box
  | _=>exact hq1.elim
end
section
variable {K:Op->Bool}{S:Nat->Prop}{c:Nat}{Sh:Value->Prop}{fU:List Value->World->Prop}
theorem Ny{C:Cn}(hC:C.Ok)(rb lb qb:Nat)(F9:Value)(ds:List Deferred){cs:List Frame}(hB:cs≠[])(U2:∀ e x,Sh (.agg (sS (e,x)))):∀ (f o:Nat)(s:bW)(A:Ad)(w:World)(D:Nat->Prop)(t:Array Value)(x:Value)(vs:List Value)(es:List En),
  C.data.length-o<f->Wk (C.tp w.tape) A o s w->Fx C rb lb qb c w->qH w C.w0.heap.size vs es->bU qp0 (dW ε) S D t w->t.size=113->t.getD 2 au=.pointer (some ⟨rb,0,none⟩) ->
  (∀ vs' fr' w',Yu ε C rb lb qb c F9 ds S (Plain.fC C.data C.lim f o s).code (Plain.fC C.data C.lim f o s).off (Plain.fC C.data C.lim f o s).held vs' (es++(Plain.fC C.data C.lim f o s).ents) fr' w'->WS qp0 (iM ε) K S c Sh fU 0 vs' fr' cs w') ->
  WS qp0 (iM ε) K S c Sh fU (Plain.fC C.data C.lim f o s).ents.length vs (bR.at ⟨over (mk lb qb F9 x) t,ds⟩ [.code LB,.inLoop LB,.inBlock 0]) cs w
 | 0,o,s,A,w,D,t,x,vs,es,hf,_,_,_,_,_,_,_=>by omega
 | f+1,o,s,A,w,D,t,x,vs,es,hf,hw,hx,hes,hst,ht,ht2,hfin=>by
  have hdl:C.data.length=C.dn:=hC.dat.len;refine(Sr.gT ..).2 ?_;rw[aeT];refine .block ?_;rw[aaz];refine GW.pc (Q:=Gp C w (fun C' w'=>Q1 C' A o s rb w')) (r:=.inl yV) (a:=⟨t,[]⟩) I6 H7 Vn Ud WG trivial ds (mk lb qb F9 x) (.inl rfl) rfl Sd (Qc lb qb F9 x) hB hst (fun τ d=>?_) (fun e a' w' hq=>?_) (fun e a' w' τ d hq=>hq.tp τ d) fun e a' fr w1 D1 hq ME hD1 hat=>?_
  .have h1:=Sc (C.tp τ) (hC.tp τ) A o s rb (fun i=>t.getD i au) (tp w τ d) (hw.shift τ d) ⟨hx.bx.row⟩;rw[<-nR t rb ht ht2] at h1;exact iH (fun e a w' hq jH d'=>hq.shift jH d') h1
  .have hq:=hq.now;obtain⟨_,_,h3⟩:=hq
   cases e with
   | normal=>trivial
   | ret=>trivial
   | panic ch=>obtain⟨c,_,_,rfl,_⟩:=h3;exact Bz c
   | _=>exact h3.elim
  .have hq1:=hq.now;obtain⟨had,hch,h3⟩:=hq1;have hx1:Fx C rb lb qb c w1:=hx.chg hch;have Y3:qH w1 C.w0.heap.size vs es:=hes.keep fun e x=>Bu (hw.shift w1.tape 0) hch e x
   cases e with
   | panic ch =>
    obtain⟨cd,hne,hs,rfl,hwk⟩:=h3;have hs:Plain.gH C.data C.lim o s=.stop cd o:=hs;have e0:Plain.fC C.data C.lim (f+1) o s=⟨[],cd,o,s.held⟩:=by unfold Plain.fC;rw[hs]
    rw[e0] at hfin ⊢;obtain⟨todo,rfl⟩:=hat;refine(Sr.gT ..).1 (hfin vs _ w1 ⟨a'.tmps,x,todo,A,s,D1,rfl,hwk,hx1,by simpa using Y3,ME,hD1 _ (su hst ht2),.inl ⟨hne,rfl⟩⟩)
   | ret =>
    obtain⟨hs,hwk⟩:=h3;have hs:Plain.gH C.data C.lim o s=.stop 0 (o+1024):=hs;have e0:Plain.fC C.data C.lim (f+1) o s=⟨[],0,o+1024,s.held⟩:=by unfold Plain.fC;rw[hs]
    rw[e0] at hfin ⊢;obtain⟨todo,rfl⟩:=hat;refine(Sr.gT ..).1 (hfin vs _ w1 ⟨a'.tmps,x,todo,A,s,D1,rfl,hwk,hx1,by simpa using Y3,ME,hD1 _ (su hst ht2),.inr ⟨rfl,rfl⟩⟩)
   | normal =>
    obtain⟨h,gh,ho,hhr,hwk,hz,_,hz2,hz5,hz7,hgr,ahY⟩:=h3;have hz2:a'.tmps.getD 2 au=.pointer (some ⟨rb,0,none⟩):=hz2;have ho:o+512<=C.dn:=ho;have hhr:Plain.hread (eH C.data o (o+512))=(h,0):=hhr;obtain⟨hs0,hs1,hnl⟩:=Um hhr
    cases hat
    show GW _ _ _ _ (bR.at _ (.code yV::_)) _ _;rw[abq];refine .seq ?_;refine .block ?_;rw[aah];have hls:Plain.gH C.data C.lim o s=(if Plain.lH h.ty=true then(match Plain.extend C.data C.lim (o+512) h s with|.error c=>.stop c o|.ok s'=>.ext s' (Plain.next o h.size))
      else if 48<=h.ty/\h.ty<=54 then(match Plain.entry C.data (o+512) h s with|.error c=>.stop c o|.ok (e,size)=>.ent e (Plain.clean s) (Plain.next o size)) else .stop 73 o):=by
     unfold Plain.gH;rw[if_neg (by omega),if_neg (by omega),hhr];simp;rfl
    refine GW.pc (l:=[c14]) (Q:=H14 rb (fun i=>a'.tmps.getD i au) 61 (Plain.lH h.ty) w1) (r:=.inl (.cond (.tmp 61) c15 Cz)) (a:=⟨a'.tmps,[]⟩) I6 H7 Vn Ud WG trivial ds (mk lb qb F9 x) (.inl rfl) rfl afb (adX lb qb F9 x) hB ME (fun τ d=>?_) (fun e a' w' hq=>?_) (fun e a' w' τ d hq=>?_) fun e a2 fr w2 D2 hq Ni hD2 hat=>?_
    .have h1:=aee rb gh h (fun i=>a'.tmps.getD i au) (tp w1 τ d) hz5 hgr;rw[<-nR a'.tmps rb hz hz2] at h1;exact iH (fun e a w' hq=>H14.of hq) h1
    .obtain⟨rfl,_⟩:=hq;trivial
    .obtain⟨h1,h2,h3,h4,h5,jH,d',rfl⟩:=hq;exact⟨h1,h2,h3,h4,h5,τ,d,rfl⟩
    obtain⟨rfl,V3,h25,h27,ag2,τ2,d2,rfl⟩:=hq
    cases hat
    refine GW.zl (w:=w1) ?_ τ2 d2;have Ni:=GL Ni;have e61:(⟨over (mk lb qb F9 x) a2.tmps,ds⟩:Act).eval (.tmp 61)=.bool (Plain.lH h.ty):=by
     show(over (mk lb qb F9 x) a2.tmps).getD 61 au=_;rw[NS (by decide) (by decide) (by decide)];exact ag2
    show GW _ _ _ _ (bR.at _ (.code (.cond (.tmp 61) c15 Cz)::_)) _ _;refine .cond e61 ?_
    cases hex:Plain.lH h.ty with
    | true =>
     rw[if_pos hex] at hls;simp only[if_true];refine GW.pt (Q:=Gp C w1 (fun C' w'=>Tj C' A o s h rb (fun i=>a2.tmps.getD i au) w')) (r:=.inr 2) (a:=⟨a2.tmps,[]⟩) I6 H7 Vn Ud WG ds (mk lb qb F9 x) (.inl rfl) rfl aeC (acs lb qb F9 x) hB Ni (fun τ d=>?_) (fun e a' w' hq=>?_) (fun e a' w' τ d hq=>hq.tp τ d) fun e a3 fr w3 D3 hq Fh hD3 hat=>?_
     .have h1:=acM (C.tp τ) (hC.tp τ) A o s rb gh h (fun i=>a2.tmps.getD i au) (tp w1 τ d) (hwk.shift τ d) ⟨hx1.bx.row⟩ ho hs0 hs1 hex (h25.trans hz5) hgr;rw[<-nR a2.tmps rb V3.size V3.box] at h1;exact iH (fun e a w' hq jH d'=>hq.shift jH d') h1
     .have hq:=hq.now;obtain⟨_,h3⟩:=hq;generalize Plain.extend (C.tp w'.tape).data (C.tp w'.tape).lim (o+512) h s=ex at h3
      cases ex with
      | error c=>obtain⟨rfl,_⟩:=h3;exact Bz c
      | ok s'=>obtain⟨rfl,_⟩:=h3;trivial
     .have hq:=hq.now;obtain⟨ZQ,h3⟩:=hq;have hx3:Fx C rb lb qb c w3:=hx1.chg ZQ;have afH:qH w3 C.w0.heap.size vs es:=Y3.keep fun e x=>Bu (hwk.shift w3.tape 0) ZQ e x
      have e1:Plain.extend (C.tp w3.tape).data (C.tp w3.tape).lim (o+512) h s=Plain.extend C.data C.lim (o+512) h s:=rfl;rw[e1] at h3
      cases Jg:Plain.extend C.data C.lim (o+512) h s with
      | error cd =>
       rw[Jg] at h3 hls;obtain⟨rfl,XR⟩:=h3;have e0:Plain.fC C.data C.lim (f+1) o s=⟨[],cd,o,s.held⟩:=by unfold Plain.fC;rw[hls]
       rw[e0] at hfin ⊢;obtain⟨todo,rfl⟩:=hat;have hne:cd≠0:=by rcases Plain.Et Jg with h|h|h|h|h|h|h|h|h <;> omega
       refine(Sr.gT ..).1 (hfin vs _ w3 ⟨a3.tmps,x,todo,A,s,D3,rfl,XR,hx3,by simpa using afH,Fh,hD3 _ (su Ni V3.box),.inl ⟨hne,rfl⟩⟩)
      | ok s' =>
       rw[Jg] at h3 hls;obtain⟨rfl,JD,h37,A',XR⟩:=h3;have e0:Plain.fC C.data C.lim (f+1) o s=Plain.fC C.data C.lim f (Plain.next o h.size) s':=by
        conv=>lhs;unfold Plain.fC
        rw[hls]
       rw[e0] at hfin ⊢
       cases hat
       show GW _ _ _ _ (bR.at _ (.inBlock 2::_)) _ _;refine .inBlock ?_;have hnx:o+512<=Plain.next o h.size:=by unfold Plain.next;have:=Plain.gy h.size;omega
       refine XD hC rb lb qb F9 x ds hB XR hx3 afH Fh JD.size JD.box (h37.trans (h27.trans hz7)) (by omega) (by rw[<-hdl];exact Plain.Bg (by omega) (Plain.yC Jg)) fun w4 D4 t4 k1 k2 k3 k4 k5 k6=>?_
       exact(Sr.gT ..).1 (Ny hC rb lb qb F9 ds hB U2 f _ s' A' w4 D4 t4 x vs es (by omega) k1 k2 k3 k4 k5 k6 hfin)
    | false =>
     rw[if_neg (by rw[hex];decide)] at hls;simp only[jI,if_false];rw[Z6];refine GW.pc (l:=[c16]) (Q:=H14 rb (fun i=>a2.tmps.getD i au) 83 (decide (48<=h.ty/\h.ty<=54)) w1) (r:=.inl (.cond (.tmp 83) runN c13)) (a:=⟨a2.tmps,[]⟩) I6 H7 Vn Ud WG trivial ds (mk lb qb F9 x) (.inl rfl) rfl ae0 (acI lb qb F9 x) hB Ni (fun τ d=>?_) (fun e a' w' hq=>?_) (fun e a' w' τ d hq=>?_) fun e a3 fr w3 D3 hq Fh hD3 hat=>?_
     .have h1:=acZ rb gh h (fun i=>a2.tmps.getD i au) (tp w1 τ d) (h25.trans hz5) hgr;rw[<-nR a2.tmps rb V3.size V3.box] at h1;exact iH (fun e a w' hq=>H14.of hq) h1
     .obtain⟨rfl,_⟩:=hq;trivial
     .obtain⟨h1,h2,h3,h4,h5,jH,d',rfl⟩:=hq;exact⟨h1,h2,h3,h4,h5,τ,d,rfl⟩
     obtain⟨rfl,JD,h35,h37,ahh,τ3,d3,rfl⟩:=hq
     cases hat
     refine GW.zl (w:=w1) ?_ τ3 d3;have Fh:=GL Fh;have e83:(⟨over (mk lb qb F9 x) a3.tmps,ds⟩:Act).eval (.tmp 83)=.bool (decide (48<=h.ty/\h.ty<=54)):=by
      show(over (mk lb qb F9 x) a3.tmps).getD 83 au=_;rw[NS (by decide) (by decide) (by decide)];exact ahh
     show GW _ _ _ _ (bR.at _ (.code (.cond (.tmp 83) runN c13)::_)) _ _;refine .cond e83 ?_;by_cases hen:48<=h.ty/\h.ty<=54
     .rw[if_pos hen] at hls;rw[decide_eq_true hen,if_pos rfl,aag];refine GW.pc (l:=[c17,c18]) (Q:=Gp C w1 (fun C' w'=>RY C' A o s h rb (fun i=>a3.tmps.getD i au) w')) (r:=.inl runM) (a:=⟨a3.tmps,[]⟩) I6 H7 Vn Ud WG trivial ds (mk lb qb F9 x) (.inl rfl) rfl afz (adl lb qb F9 x) hB Fh (fun τ d=>?_) (fun e a' w' hq=>?_) (fun e a' w' τ d hq=>hq.tp τ d) fun e a4 fr w4 D4 hq Iw hD4 hat=>?_
      .have h1:=adr (C.tp τ) (hC.tp τ) A o s rb gh h (fun i=>a3.tmps.getD i au) (tp w1 τ d) (hwk.shift τ d) ⟨hx1.bx.row⟩ ho hnl hs0 hs1 (h35.trans (h25.trans hz5)) hgr hx1.r1 hx1.r2;rw[<-nR a3.tmps rb JD.size JD.box] at h1;exact iH (fun e a w' hq jH d'=>hq.shift jH d') h1
      .have hq:=hq.now;obtain⟨_,h3⟩:=hq;generalize Plain.entry (C.tp w'.tape).data (o+512) h s=ex at h3
       cases ex with
       | error c=>obtain⟨rfl,_⟩:=h3;exact Bz c
       | ok s'=>obtain⟨en,sz⟩:=s';obtain⟨rfl,_⟩:=h3;trivial
      .have hq:=hq.now;obtain⟨afx,h3⟩:=hq;have hx4:Fx C rb lb qb c w4:=hx1.chg afx;have aes:qH w4 C.w0.heap.size vs es:=Y3.keep fun e x=>Bu (hwk.shift w4.tape 0) afx e x
       have e1:Plain.entry (C.tp w4.tape).data (o+512) h s=Plain.entry C.data (o+512) h s:=rfl;rw[e1] at h3
       cases Jg:Plain.entry C.data (o+512) h s with
       | error cd =>
        rw[Jg] at h3 hls;obtain⟨rfl,acw⟩:=h3;have e0:Plain.fC C.data C.lim (f+1) o s=⟨[],cd,o,s.held⟩:=by unfold Plain.fC;rw[hls]
        rw[e0] at hfin ⊢;obtain⟨todo,rfl⟩:=hat;have hne:cd≠0:=by rcases Plain.GX Jg with h|h|h|h|h|h|h|h|h <;> omega
        refine(Sr.gT ..).1 (hfin vs _ w4 ⟨a4.tmps,x,todo,A,s,D4,rfl,acw,hx4,by simpa using aes,Iw,hD4 _ (su Fh JD.box),.inl ⟨hne,rfl⟩⟩)
       | ok ens =>
        obtain⟨en,size⟩:=ens;rw[Jg] at h3 hls;obtain⟨rfl,abv,h47,A',y,eb,h48,hge,hrow,acw,hown⟩:=h3;have e0:Plain.fC C.data C.lim (f+1) o s={Plain.fC C.data C.lim f (Plain.next o size) (Plain.clean s) with ents:=en::(Plain.fC C.data C.lim f (Plain.next o size) (Plain.clean s)).ents}:=by
         conv=>lhs;unfold Plain.fC
         rw[hls]
        rw[e0] at hfin ⊢
        cases hat
        show GW _ _ _ _ (bR.at _ (.code runM::_)) _ _;have hbel:Below w4.heap.size w4 (w4.alloc (.cells (sS (en,y)) 42)):=(Below.refl _ _).alloc (aY _) _;have hvr:=YB Iw h48 hrow;refine Uc lb qb eb w4 _ ds (by rw[aa8];exact abv.size) (mk_one abv.size) (by rw[NS (by decide) (by decide) (by decide)];exact h48) hrow hx4.l hx4.q (fun b hb=>(Iw.off b hb).2) rfl (U2 en y) ((Sr.gT ..).2 ?_);rw[TP];show GW _ _ _ _ (bR.at _ (.inBlock 2::_)) _ _;refine .inBlock ?_;have hth:=Plain.r9 Jg;have hle:=Plain.Bg (d:=C.data) (o:=o) (n:=size) (by omega) hth;have hnx:o+512<=Plain.next o size:=by unfold Plain.next;have:=Plain.gy size;omega
        have hsz:size<9223372036854775808:=by
         have h1:=Plain.Bl size;rw[Plain.tX] at hth;have h2:=hC.dn;omega
        refine XD hC rb lb qb F9 (cB lb qb) ds hB (acw.below hbel) (hx4.below hbel) ((aes.snoc hown).keep fun e x=>Pg hbel e x) (BD (BD (BD (Oq Iw _) 99 hvr) 100 (.bool true)) 101 (.bool false)) (by simp[abv.size]) (by rw[getD_set_ne (by decide),getD_set_ne (by decide),getD_set_ne (by decide)];exact abv.box) (size:=size) (by rw[getD_set_ne (by decide),getD_set_ne (by decide),getD_set_ne (by decide)];exact h47) hsz (by rw[<-hdl];exact hle) fun w5 D5 t5 k1 k2 k3 k4 k5 k6=>?_
        refine(Sr.gT ..).1 (Ny hC rb lb qb F9 ds hB U2 f _ (Plain.clean s) A' w5 D5 t5 _ _ _ (by omega) k1 k2 k3 k4 k5 k6 fun vs' fr' w' hre=>hfin vs' fr' w' ?_);rw[qbI] at hre;exact hre
     .rw[if_neg hen] at hls;rw[decide_eq_false hen,if_neg (by decide)];refine GW.pt (Q:=H13 w1) (r:=.inr 2) (a:=⟨a3.tmps,[]⟩) I6 H7 Vn Ud WG ds (mk lb qb F9 x) (.inl rfl) rfl afW (acG lb qb F9 x) hB Fh (fun τ d=>?_) (fun e a' w' hq=>?_) (fun e a' w' τ d hq=>?_) fun e a4 fr w4 D4 hq Iw hD4 hat=>?_
      .have h1:=acS (C.tp τ) rb (fun i=>a3.tmps.getD i au) (tp w1 τ d) ⟨hx1.bx.row⟩;rw[<-nR a3.tmps rb JD.size JD.box] at h1;exact iH (fun e a w' hq=>⟨hq.1,τ,d,hq.2⟩) h1
      .obtain⟨rfl,_⟩:=hq;exact Bz 73
      .obtain⟨h1,jH,d',rfl⟩:=hq;exact⟨h1,τ,d,rfl⟩
      .obtain⟨rfl,τ4,d4,rfl⟩:=hq;have e0:Plain.fC C.data C.lim (f+1) o s=⟨[],73,o,s.held⟩:=by unfold Plain.fC;rw[hls]
       rw[e0] at hfin ⊢;obtain⟨todo,rfl⟩:=hat;refine(Sr.gT ..).1 (hfin vs _ _ ⟨a4.tmps,x,todo,A,s,D4,rfl,hwk.shift τ4 d4,hx1.tp τ4 d4,by rw[Qq];exact Y3,Iw,hD4 _ (su Fh JD.box),.inl ⟨show(73:Int)≠0 by decide,rfl⟩⟩)
   | _=>exact h3.elim
end
end St
end
section
open Go.Conc
open Cc (tp)
namespace St
open Sr (GW WS qY Qt bT kg vB fK Tk gB dR fQ bU over iM dW kW uE oN)
open Gr (gJ aN aD aO aG aS)
noncomputable def Xf:Code:=Tryz.f111.body.getD .skip
noncomputable def reA:Code:=match Xf with|.seq (.seq _ c) _=>c|_=>.skip
noncomputable def reC:Code:=match Xf with|.seq _ c=>c|_=>.skip
def reF(f:Nat->Value)(rb gb:Nat)(ok:Bool):Array Value:=#[pv rb,pv gb,.bool ok,f 3,f 4,f 5,f 6,f 7,f 8,f 9,f 10,f 11,f 12,f 13,f 14,f 15,f 16,f 17,f 18,f 19,f 20,f 21,f 22]
structure Ch1(C:Cn)(w w':World):Prop where
 os:w'.os=w.os
 tape:w'.tape=w.tape
 output:w'.output=w.output
 size:w.heap.size<=w'.heap.size
 block:∀ i,i<w.heap.size->i≠C.wb->w'.heap[i]? = w.heap[i]?
theorem Ch1.grow{C:Cn}{w w':World}(h:w.grownBy w' (some C.wb)):Ch1 C w w':=⟨h.os,h.tape,h.output,h.size,fun i hi hne=>h.block i hi fun e=>hne (pQ e)⟩
def Zg(C:Cn)(A:Ad)(o:Nat)(s:bW)(code off:Int)(w:World):Prop:=w.heap[C.wb]? = some (.cells (VH C A o s code off) 85)
def Xl(C:Cn)(A:Ad)(o:Nat)(s:bW)(code:Int)(rb:Nat)(w:World):Exit->Act->World->Prop
 | .normal,a,w'=>a.defers=[]/\a.tmps.size=23/\a.tmps.getD 0 au=pv rb/\Ch1 C w w'/\Zg C A o s code 0 w'
 | _,_,_=>False
def Nq(C:Cn)(A:Ad)(o:Nat)(s:bW)(code:Int)(w:World):Exit->Act->World->Prop
 | .normal,a,w'=>a.defers=[]/\Ch1 C w w'/\Zg C A o s code o w'
 | _,_,_=>False
theorem acn(C:Cn)(A:Ad)(o:Nat)(s:bW)(code:Int)(rb gb:Nat)(ok:Bool)(f:Nat->Value)(w:World)(hw:Zg C A o s 0 0 w)(hb:Bx C rb w)(hg:w.cell? ⟨gb,0,none⟩=some (.int .i64 code))(h0:ok=false->code=0):gB qp0 (Xl C A o s code rb w) [reA] {tmps:=reF f rb gb ok,defers:=[]} w:=by
 have hcb:=hb.cell;have hf5:=aS hw 5;have h5:w.cell? ⟨C.wb,5,none⟩=some (.int .i64 0):=by rw[aG hw];rfl
 have HW:=ah hw;clear hw hb;unfold reF pv;simp only[reA,Xf,Tryz.f111,Option.getD_some,gB]
 cases ok with
 | true =>
  clear h0;go_wp2
  refine⟨rfl,rfl,rfl,Ch1.grow (aD _ _ _ _),?_⟩;exact aO HW.out (j:=5) _
 | false =>
  have:=h0 rfl;subst this;clear h0;go_wp2
  exact⟨rfl,rfl,rfl,⟨rfl,rfl,rfl,aY _,fun _ _ _=>rfl⟩,HW.out⟩
theorem ac9(C:Cn)(A:Ad)(o:Nat)(s:bW)(code:Int)(rb:Nat)(f:Nat->Value)(w:World)(hw:Zg C A o s code 0 w)(hb:Bx C rb w)(ho:(o:Int)<=9223372036854775807):gB qp0 (Nq C A o s code w) [reC] {tmps:=#[pv rb,f 1,f 2,f 3,f 4,f 5,f 6,f 7,f 8,f 9,f 10,f 11,f 12,f 13,f 14,f 15,f 16,f 17,f 18,f 19,f 20,f 21,f 22],defers:=[]} w:=by
 have hcb:=hb.cell;have hf6:=aS hw 6;have h3:w.cell? ⟨C.wb,3,none⟩=some (.int .i64 o):=by rw[aG hw];rfl
 have h6:w.cell? ⟨C.wb,6,none⟩=some (.int .i64 0):=by rw[aG hw];rfl
 have HW:=ah hw;clear hw hb;unfold pv;simp only[reC,Xf,Tryz.f111,Option.getD_some,gB];refine Oy fun K hK=>?_
 go_region
 all_goals (refine hK _ _ ?_;refine⟨rfl,⟨rfl,rfl,rfl,by simp[World.drew],fun i hi hne=>(aD w C.wb 6 _).block i hi fun e=>hne (pQ e)⟩,?_⟩;exact aO HW.out (j:=6) _)
end St
end
section
open Go.Conc
open Cc (tp)
namespace St
open Sr (GW WS qY Qt bT kg vB fK Tk gB dR fQ bU over iM dW kW uE oN)
open Gr (gJ aN aD aO aG aS)
variable {ε:Nat×Nat}
def vK(rb:Nat):Deferred:={target:=.fn (.func 111) #[pv rb],args:=#[]}
theorem dz{R:Nat->Nat->Prop}{L:FuncId->Bool}{x:Array Value}(h:∀ v∈x.toList,Sr.VR R L v v):Sr.AV R L x x:=⟨rfl,fun i v w hv hw=>by
 rw[hv] at hw;cases hw
 exact h v (by rw[<-qaV] at hv;exact qbb hv)⟩
section
variable {P:Program}{a:Act}{o:Oper}{x y:Operand}{t:TypeId}
theorem wR{z:Array Value}(hop:o.op=.alloc t)(hz:(P.info? t).bind (·.zero)=some (.agg z))(w:World):(execOp a.eval o).run P w=.ok (.value (pv w.heap.size)) (w.alloc (.cells z t))/\(execOp a.eval o).events P w #[]=#[]:=by
 obtain⟨i,hi,h0⟩:=qbc.1 hz;unfold execOp;simp[go_sem,hop,Instr.alloc,zeroValue,typeInfo,hi,h0,newVar,newRow,Value.cells,pv]
theorem Rv{g:Nat}{u v:Value}{ty:TypeId}(hop:o.op=.store t x y)(hx:a.eval x=.pointer (some ⟨g,0,none⟩))(hy:a.eval y=.agg #[v])(hi:(P.info? t).map (·.size)=some 1)(h1:v.oneCell'=true)(w:World)(hr:w.heap[g]? = some (.cells #[u] ty)):(execOp a.eval o).run P w=.ok .skip (w.setRow g #[v])/\∀ e∈(execOp a.eval o).events P w #[],∃ ad,e.loc=.cell ad/\ad.block=g:=by
 obtain⟨i,hi',hs'⟩:=zA.1 hi;have hr':=run_storeCells_at (P:=P) g 0 ty [v] 0 #[u] w hr (by simp) (by simpa using h1);have e:((#[u]:Array Value).toList.take (0+0)++[v]++(#[u]:Array Value).toList.drop (0+0+[v].length)).toArray=#[v]:=by simp
 rw[e] at hr';constructor
 .simp[execOp,hop,hx,hy,Instr.storeAt,Instr.sureAddr,storeVar,sizeOf,typeInfo,hi',hs',Value.cells,hr',Result.andThen]
 .intro e he;unfold execOp at he;simp only[hop] at he;have hx':=hx;simp only[Act.eval,Az] at hx hy;simp[go_sem,hx,hy,Instr.storeAt,Instr.sureAddr,storeVar,sizeOf,typeInfo,hi',hs',Value.cells] at he;exact(events_storeCells_at (P:=P) g 0 ty [v] 0 #[u] w #[] hr (by simp) (by simpa using h1) e he).resolve_left (by simp)
end
noncomputable def re0:Code:=match Xf with|.seq (.seq c _) _=>c|_=>.skip
theorem WE:Xf=.seq (.seq re0 reA) reC:=by kernel_rfl
theorem Yq:kg qp0 (dW ε) Sr.kW [] reA=true:=by kernel_rfl
theorem adk:kg qp0 (dW ε) Sr.kW [] reC=true:=by kernel_rfl
structure U3(C:Cn)(w w':World):Prop where
 os:w'.os=w.os
 output:w'.output=w.output
 size:w.heap.size<=w'.heap.size
 block:∀ i,i<w.heap.size->i≠C.wb->w'.heap[i]? = w.heap[i]?
theorem U3.trans{C:Cn}{a b c:World}(h:U3 C a b)(k:U3 C b c):U3 C a c:=⟨k.os.trans h.os,k.output.trans h.output,tT h.size k.size,fun i hi hn=>(k.block i (CW hi h.size) hn).trans (h.block i hi hn)⟩
theorem U3.of1{C:Cn}{w w':World}{τ:Nat->Question->Nat}{d:Nat}(h:Ch1 (C.tp τ) (tp w τ d) w'):U3 C w w':=⟨h.os,h.output,h.size,h.block⟩
theorem Xl.shift{C:Cn}{A:Ad}{o:Nat}{s:bW}{code:Int}{rb:Nat}{w w':World}{τ:Nat->Question->Nat}{d:Nat}{e:Exit}{a:Act}(h:Xl (C.tp τ) A o s code rb (tp w τ d) e a w')(jH:Nat->Question->Nat)(d':Nat):Xl (C.tp jH) A o s code rb (tp w jH 0) e a (tp w' jH d'):=by
 cases e with
 | normal=>obtain⟨h1,h2,h3,h4,h5⟩:=h;exact⟨h1,h2,h3,⟨h4.os,rfl,h4.output,h4.size,h4.block⟩,h5⟩
 | _=>exact h.elim
theorem Nq.shift{C:Cn}{A:Ad}{o:Nat}{s:bW}{code:Int}{w w':World}{τ:Nat->Question->Nat}{d:Nat}{e:Exit}{a:Act}(h:Nq (C.tp τ) A o s code (tp w τ d) e a w')(jH:Nat->Question->Nat)(d':Nat):Nq (C.tp jH) A o s code (tp w jH 0) e a (tp w' jH d'):=by
 cases e with
 | normal=>obtain⟨h1,h4,h5⟩:=h;exact⟨h1,⟨h4.os,rfl,h4.output,h4.size,h4.block⟩,h5⟩
 | _=>exact h.elim
theorem nu{P:Program}{L:FuncId->Bool}{S D:Nat->Prop}{t:Array Value}{w:World}(h:bU P L S D t w){ob:Obj}(ho:Sr.OR (Sr.mQ (Sr.grown D w.heap.size 1)) L ob ob):bU P L S (Sr.grown D w.heap.size 1) t (w.alloc ob):=by
 have hsz:(w.alloc ob).heap.size=w.heap.size+1:=qb3 ..;have hb:∀ i,i<w.heap.size->(w.alloc ob).heap[i]? = w.heap[i]?:=fun i hi=>((Below.refl w.heap.size w).alloc (aY _) ob).block i hi
 have hmono:∀ a b,Sr.mQ D a b->Sr.mQ (Sr.grown D w.heap.size 1) a b:=fun a b hab=>⟨hab.1,.inl hab.2⟩
 have PK:Sr.FZ (Sr.mQ D) w.heap.size w.heap.size:=fun a b hab=>⟨h.bnd a hab.2,hab.1 ▸ h.bnd a hab.2⟩
 refine⟨fun b hS=>⟨?_,by have:=(h.off b hS).2;omega⟩,?_,?_,⟨fun a b hab=>?_,fun b Zh=>?_,fun a b hab=>?_⟩,h.tmps.mono hmono⟩
 .rintro (hd|hd)
  .exact(h.off b hS).1 hd
  .have:=(h.off b hS).2;omega
 .have:=h.gb.ext PK 1;exact⟨⟨fun a a' b h h'=>this.inj a a' b ((Sr.bX _ _).2 h) ((Sr.bX _ _).2 h'),fun a b b' h h'=>this.fn a b b' ((Sr.bX _ _).2 h) ((Sr.bX _ _).2 h')⟩,fun g hg b h=>this.g1 g hg b ((Sr.bX _ _).2 h),fun g hg a h=>this.g2 g hg a ((Sr.bX _ _).2 h),fun g hg=>(Sr.bX _ _).1 (this.gl g hg)⟩
 .rintro a (hd|hd)
  .have:=h.bnd a hd;omega
  .omega
 .obtain⟨rfl,hd|hd⟩:=hab
  .rw[hb a (h.bnd a hd)];exact(h.heap a a ⟨rfl,hd⟩).mono hmono
  .have:a=w.heap.size:=by omega
   subst this;have e:(w.alloc ob).heap[w.heap.size]? = some ob:=JL;rw[e];exact .some ho
 .obtain⟨x,e,h1,h2⟩:=h.heap.opq b Zh;have:=hb b (fT.1 h1).1;exact⟨x,e,this.trans h1,this.trans h2⟩
 .exact(h.heap.ext 1).Af a b ((Sr.bX _ _).2 hab)
section
variable {S:Nat->Prop}{Φ:Frame->List Frame->World->Prop}
theorem Qo{C:Cn}(hC:C.Ok){A:Ad}{off:Nat}{s:bW}{code:Int}{ok:Bool}{rb:Nat}{v:Value}{w:World}{D:Nat->Prop}{t:Array Value}{c1 R1:Frame}{cs:List Frame}(hw:Zg C A off s 0 0 w)(hb:Bx C rb w)(hne:rb≠C.wb)(hst:bU qp0 (dW ε) S D t w)(hrb:D rb)(hoff:(off:Int)<=9223372036854775807)(h0:ok=false->code=0)(hv:Sr.VR (Sr.mQ D) (dW ε) v v)(hta:∀ w,(Instr.typeAssert v 20 179 true).run qp0 w=.ok (.tuple #[.agg #[.int .i64 code],.bool ok]) w/\(Instr.typeAssert v 20 179 true).events qp0 w #[]=#[])(hback:∀ u,Sr.back .deferred c1 u=R1)(next:∀ w',U3 C w w'->Zg C A off s code off w'->GW qp0 (iM ε) S Φ R1 cs w'):GW qp0 (iM ε) S Φ ((baseD 111).at ⟨#[pv rb,au,au,au,v,au,au,au,au,au,au,au,au,au,au,au,au,au,au,au,au,au,au],[]⟩ (.inRegion (match re0 with|.region _ ops _=>ops|_=>#[]) [1,2,3,4,5,6,7]::.code reA::.code reC::[])) (c1::cs) w:=by
 simp only[re0,Xf,Tryz.f111,Option.getD_some];refine .still (o:={dst:=some 5,op:=Op.typeAssert (Operand.tmp 4) 20 179 true,type:=180,pos := "stream.go:149",after:=#[{on:=0,ground:=Ground.data}],guard:=none}) rfl rfl (by decide) (by show(true&&Sr.jL qp0 (iM ε) (.tmp 4)&&Sr.G5 qp0 179&&!(iM ε) (2*179+1000000000))=true;rw[Sr.aew ε (t:=179) (by kernel_rfl)];kernel_rfl) (by simp) (.tuple #[.agg #[.int .i64 code],.bool ok]) (fun ω=>by
  have h1:=(hta ω).1;have h2:=(hta ω).2;constructor
  .unfold execOp;simp[Act.eval,h1,Result.andThen]
  .unfold execOp;simp[Act.eval,Sem.events_bind,h1,h2,Result.evThen]) ?_
 walk_nrm;refine .move rfl rfl (by decide) (by kernel_rfl) (.inl rfl) ?_;walk_nrm;refine .still rfl rfl (by decide) (by kernel_rfl) (by simp) (.agg #[.int .i64 code]) (fun ω=>Cc.eP rfl rfl rfl ω) ?_;walk_nrm;refine .still rfl rfl (by decide) (by kernel_rfl) (by simp) (.bool ok) (fun ω=>Cc.eP rfl rfl rfl ω) ?_;walk_nrm;have hz:(qp0.info? 179).bind (·.zero)=some (.agg #[.int .i64 0]):=by kernel_rfl
 have hi1:(qp0.info? 179).map (·.size)=some 1:=by kernel_rfl
 refine .val rfl rfl (by decide) (by kernel_rfl) (by simp) (pv w.heap.size) (w.alloc (.cells #[.int .i64 0] 179)) (fun τ d=>(wR rfl hz _).1) (fun τ d e he=>by rw[(wR rfl hz _).2] at he;simp at he) ?_ (hf:=Sr.wY (fun b hb=>(hst.off b hb).2) _);walk_nrm;have hr1:(w.alloc (.cells #[.int .i64 0] 179)).heap[w.heap.size]? = some (.cells #[.int .i64 0] 179):=JL;have ME:=fun τ d=>Rv (P:=qp0) (a:=⟨#[pv rb,pv w.heap.size,au,.tuple #[.agg #[.int .i64 code],.bool ok],v,.tuple #[.agg #[.int .i64 code],.bool ok],.agg #[.int .i64 code],.bool ok,au,au,au,au,au,au,au,au,au,au,au,au,au,au,au],[]⟩) (o:={dst:=none,op:=Op.store 179 (Operand.tmp 1) (Operand.tmp 6),type:=0,pos := "stream.go:149",after:=#[{on:=5,ground:=Ground.data},{on:=3,ground:=Ground.data},{on:=0,ground:=Ground.chain},{on:=0,ground:=Ground.phase},{on:=1,ground:=Ground.phase},{on:=2,ground:=Ground.phase},{on:=3,ground:=Ground.phase},{on:=4,ground:=Ground.textOnly Departure.lateStores},{on:=5,ground:=Ground.phase}],guard:=none}) rfl (g:=w.heap.size) (v:=.int .i64 code) rfl rfl hi1 rfl (tp (w.alloc (.cells #[.int .i64 0] 179)) τ d) hr1
 refine .non rfl rfl (by decide) (by kernel_rfl) (by simp) ((w.alloc (.cells #[.int .i64 0] 179)).setRow w.heap.size #[.int .i64 code]) (fun τ d=>(ME τ d).1) (fun τ d e he b hb hS=>by
  obtain⟨ad,h1,h2⟩:=(ME τ d).2 e he;rw[h1] at hb;have hb:some ad.block=some b:=hb
  cases hb
  rw[h2] at hS;have:=(hst.off _ hS).2;omega) ?_ (hf:=fun b hb=>by
  have hlt:=(hst.off b hb).2;rw[qQ,Sr.wY (S:=S) (fun b hb=>(hst.off b hb).2) _ b hb,Sr.wY (S:=S) (fun b hb=>(hst.off b hb).2) _ b hb])
 rw[qQ];walk_nrm;refine .move rfl rfl (by decide) (by kernel_rfl) (.inr rfl) ?_;walk_nrm;refine .rend ?_;have hbel:Below w.heap.size w (w.alloc (.cells #[.int .i64 code] 179)):=(Below.refl _ _).alloc (aY _) _;have hrow:(w.alloc (.cells #[.int .i64 code] 179)).heap[w.heap.size]? = some (.cells #[.int .i64 code] 179):=JL;have hg:=nu hst (ob:=.cells #[.int .i64 code] 179) (.cells _ _ _ _ (dz (by intro u hu;simp at hu;subst hu;exact .int _ _)));have hmono:∀ a b,Sr.mQ D a b->Sr.mQ (Sr.grown D w.heap.size 1) a b:=fun a b hab=>⟨hab.1,.inl hab.2⟩
 have H6:∀ b,Sr.grown D w.heap.size 1 b->Sr.VR (Sr.mQ (Sr.grown D w.heap.size 1)) (dW ε) (pv b) (pv b):=fun b hb=>.ptr _ _ ⟨⟨rfl,hb⟩,rfl,rfl⟩
 have hvu:Sr.VR (Sr.mQ (Sr.grown D w.heap.size 1)) (dW ε) au au:=Sr.dG;have hva:Sr.VR (Sr.mQ (Sr.grown D w.heap.size 1)) (dW ε) (.agg #[.int .i64 code]) (.agg #[.int .i64 code]):=.agg _ _ rfl (dz (by intro u hu;simp at hu;subst hu;exact .int _ _)).2;have hvt:Sr.VR (Sr.mQ (Sr.grown D w.heap.size 1)) (dW ε) (.tuple #[.agg #[.int .i64 code],.bool ok]) (.tuple #[.agg #[.int .i64 code],.bool ok]):=.tuple _ _ rfl (dz (by intro u hu;simp at hu;rcases hu with rfl|rfl;exact hva;exact .bool _)).2;have AY:Sr.AV (Sr.mQ (Sr.grown D w.heap.size 1)) (dW ε) #[pv rb,pv w.heap.size,.bool ok,.tuple #[.agg #[.int .i64 code],.bool ok],v,.tuple #[.agg #[.int .i64 code],.bool ok],.agg #[.int .i64 code],.bool ok,au,au,au,au,au,au,au,au,au,au,au,au,au,au,au] #[pv rb,pv w.heap.size,.bool ok,.tuple #[.agg #[.int .i64 code],.bool ok],v,.tuple #[.agg #[.int .i64 code],.bool ok],.agg #[.int .i64 code],.bool ok,au,au,au,au,au,au,au,au,au,au,au,au,au,au,au]:=dz (by
  intro u hu;simp only[rD,xS,or_false] at hu;rcases hu with rfl|rfl|rfl|rfl|rfl|rfl|rfl|rfl|rfl|rfl|rfl|rfl|rfl|rfl|rfl|rfl|rfl|rfl|rfl|rfl|rfl|rfl|rfl
  .exact H6 _ (.inl hrb)
  .exact H6 _ (.inr (by omega))
  .exact .bool _
  .exact hvt
  .exact hv.mono hmono
  .exact hvt
  .exact hva
  .exact .bool _
  all_goals exact hvu)
 have agc:bU qp0 (dW ε) S (Sr.grown D w.heap.size 1) #[pv rb,pv w.heap.size,.bool ok,.tuple #[.agg #[.int .i64 code],.bool ok],v,.tuple #[.agg #[.int .i64 code],.bool ok],.agg #[.int .i64 code],.bool ok,au,au,au,au,au,au,au,au,au,au,au,au,au,au,au] (w.alloc (.cells #[.int .i64 code] 179)):=⟨hg.off,hg.gb,hg.bnd,hg.heap,AY⟩;have hwA:Zg C A off s 0 0 (w.alloc (.cells #[.int .i64 code] 179)):=Gr.aU hw hbel;have hbA:Bx C rb (w.alloc (.cells #[.int .i64 code] 179)):=hb.below hbel;have ahu:U3 C w (w.alloc (.cells #[.int .i64 code] 179)):=⟨rfl,rfl,hbel.size,fun i hi _=>hbel.block i hi⟩;generalize w.alloc (.cells #[.int .i64 code] 179)=w1 at *
 refine GW.pt (c:=reA) (Q:=Gp C w1 (fun C' w'=>Xl C' A off s code rb w')) (r:=.inl reC) (k:=[]) (a:=⟨#[pv rb,pv w.heap.size,.bool ok,.tuple #[.agg #[.int .i64 code],.bool ok],v,.tuple #[.agg #[.int .i64 code],.bool ok],.agg #[.int .i64 code],.bool ok,au,au,au,au,au,au,au,au,au,au,au,au,au,au,au],[]⟩) I6 H7 Vn Ud WG [] [] (.inr rfl) rfl Yq Yq (by simp) agc (fun τ d=>?_) (fun e a' w' hq=>?_) (fun e a' w' τ d hq=>hq.tp τ d) fun e a2 fr w2 D2 hq Ni hD2 hat=>?_
 .have h1:=acn (C.tp τ) A off s code rb w.heap.size ok (fun i=>#[pv rb,pv w.heap.size,.bool ok,.tuple #[.agg #[.int .i64 code],.bool ok],v,.tuple #[.agg #[.int .i64 code],.bool ok],.agg #[.int .i64 code],.bool ok,au,au,au,au,au,au,au,au,au,au,au,au,au,au,au].getD i au) (tp w1 τ d) hwA ⟨hbA.row⟩ (show w1.cell? ⟨w.heap.size,0,none⟩=some (.int .i64 code) by rw[aG hrow];rfl) h0;exact iH (fun e a w' hq jH d'=>hq.shift jH d') h1
 .have hq:=hq.now
  cases e with
  | normal=>trivial
  | _=>exact hq.elim
 .have hq1:=hq.now
  cases e with
  | normal =>
   obtain⟨had,hsz,h20,hch,hwk⟩:=hq1
   cases hat
   have ae1:=U3.of1 hch;have hb2:Bx C rb w2:=⟨by rw[ae1.block rb (fT.1 hbA.row).1 hne];exact hbA.row⟩;show GW _ _ _ _ (Frame.at _ ⟨a2.tmps,[]⟩ [.code reC]) _ _;refine GW.pe (Q:=fun a w'=>Gp C w2 (fun C' w'=>Nq C' A off s code w') .normal a w') (a:=⟨a2.tmps,[]⟩) I6 H7 Vn Ud WG (.inr rfl) rfl adk (by simp) Ni (fun τ d=>?_) (fun a' w' τ d hq=>hq.tp τ d) fun a3 w3 D3 hq3 hd3 Fh=>?_
   .have e23:a2.tmps=#[pv rb,a2.tmps.getD 1 au,a2.tmps.getD 2 au,a2.tmps.getD 3 au,a2.tmps.getD 4 au,a2.tmps.getD 5 au,a2.tmps.getD 6 au,a2.tmps.getD 7 au,a2.tmps.getD 8 au,a2.tmps.getD 9 au,a2.tmps.getD 10 au,a2.tmps.getD 11 au,a2.tmps.getD 12 au,a2.tmps.getD 13 au,a2.tmps.getD 14 au,a2.tmps.getD 15 au,a2.tmps.getD 16 au,a2.tmps.getD 17 au,a2.tmps.getD 18 au,a2.tmps.getD 19 au,a2.tmps.getD 20 au,a2.tmps.getD 21 au,a2.tmps.getD 22 au]:=by
     have e:a2.tmps=((List.range 23).map (fun i=>a2.tmps.getD i au)).toArray:=by
      apply TS
      .simp[hsz]
      .intro i hi1 hi2;simp[hi1]
     rw[<-h20];exact e
    have h1:=ac9 (C.tp τ) A off s code rb (fun i=>a2.tmps.getD i au) (tp w2 τ d) hwk ⟨hb2.row⟩ hoff;rw[<-e23] at h1;have h2:reC.wp qp0 _ _ _:=h1;refine wp_mono h2 fun e a w' hq=>?_
    cases e with
    | normal=>exact⟨rfl,fun jH d'=>Nq.shift (show Nq (C.tp τ) A off s code (tp w2 τ d) .normal a w' from hq) jH d'⟩
    | _=>exact hq.elim
   .have hq3:=hq3.now;obtain⟨_,ZQ,XR⟩:=hq3;refine .fin ?_;refine GW.back (v:=.tuple #[]) (.inr rfl) hd3 func111 (fun w=>?_) ?_
    .simp[results,Tryz.f111]
    .show GW _ _ _ _ (Sr.back .deferred c1 _) _ _;rw[hback];exact next w3 ((ahu.trans ae1).trans (U3.of1 ZQ)) XR
  | _=>exact hq1.elim
end
end St
end
section
open Go.Conc
open Cc (tp)
namespace St
open Sr (GW WS qY Qt bT kg vB fK Tk gB dR fQ bU over iM dW kW uE oN)
variable {ε:Nat×Nat}
theorem acg(code:Int)(w:World):(Instr.typeAssert (.iface 179 (.agg #[.int .i64 code])) 20 179 true).run qp0 w=.ok (.tuple #[.agg #[.int .i64 code],.bool true]) w/\(Instr.typeAssert (.iface 179 (.agg #[.int .i64 code])) 20 179 true).events qp0 w #[]=#[]:=by
 constructor <;> kernel_rfl
theorem afq(w:World):(Instr.typeAssert .nilIface 20 179 true).run qp0 w=.ok (.tuple #[.agg #[.int .i64 0],.bool false]) w/\(Instr.typeAssert .nilIface 20 179 true).events qp0 w #[]=#[]:=by
 constructor <;> kernel_rfl
section
variable {S:Nat->Prop}{c:Nat}{Φ:Frame->List Frame->World->Prop}
theorem aa4{C:Cn}(hC:C.Ok){rb lb qb:Nat}{F9:Value}{code:Int}{off:Nat}{held:Int}{vs:List Value}{es:List En}{fr c74:Frame}{cs:List Frame}{w:World}(h:Yu ε C rb lb qb c F9 [vK rb] S code off held vs es fr w)(next:∀ (A:Ad)(s:bW)(w':World),s.held=held->U3 C w w'->Zg C A off s code off w'->qH w' C.w0.heap.size vs es->GW qp0 (iM ε) S Φ (c74.finish (.tuple #[])) cs w'):GW qp0 (iM ε) S Φ fr (c74::cs) w:=by
 obtain⟨t,x,todo,A,s,D,hh,hwk,hx,hes,hst,hrb,hfr⟩:=h;have hoff:(off:Int)<=9223372036854775807:=by have h1:=hwk.Zv;have h1:off<=C.dn:=h1;have h2:=hC.dn;omega
 have hend:∀ w',U3 C w w'->Zg C A off s code off w'->GW qp0 (iM ε) S Φ {bR.at ⟨over (mk lb qb F9 x) t,[]⟩ todo with mode:=.returning} (c74::cs) w':=fun w' h1 h2=>by
  refine GW.leave (v:=.tuple #[]) rfl rfl func75 (fun w=>?_) (next A s w' hh h1 h2 (hes.keep fun e y ho=>?_))
  .simp[results,Tryz.f75]
  .exact Gr.gJ ho fun b hb=>h1.block b (ho.lt b hb).2 fun e1=>Gr.aN ho (show w.heap[C.wb]? = _ from hwk.row) (by decide) (by rw[hb];exact congrArg some e1)
 rcases hfr with⟨hne,rfl⟩|⟨rfl,rfl⟩
 .refine GW.out (f:=111) (.inr ⟨_,rfl⟩) func111 (by decide) rfl ?_;rw[enter_atD (P:=qp0) (f:=111) (fn:=Tryz.f111) (c:=Xf) #[pv rb] func111 rfl];have e0:(#[pv rb]++Array.replicate (Tryz.f111.ntmps-#[pv rb].size) au:Array Value)=#[pv rb,au,au,au,au,au,au,au,au,au,au,au,au,au,au,au,au,au,au,au,au,au,au]:=by kernel_rfl
  rw[e0,WE];refine .seq ?_;refine .seq ?_;have key:=Qo (S:=S) (Φ:=Φ) hC (ok:=true) (v:=.iface 179 (.agg #[.int .i64 code])) (c1:={bR.at ⟨over (mk lb qb F9 x) t,[]⟩ todo with mode:=.panicking [{v:=.iface 179 (.agg #[.int .i64 code]),recovered:=true}]}) (R1:={bR.at ⟨over (mk lb qb F9 x) t,[]⟩ todo with mode:=.returning}) (cs:=c74::cs) hwk.row hx.bx hx.r1 hst hrb hoff (fun h=>by cases h) (.iface _ _ _ (.agg _ _ rfl (dz (by intro u hu;simp at hu;subst hu;exact .int _ _)).2)) (acg code) (fun u=>rfl) hend;simp only[re0,Xf,Tryz.f111,Option.getD_some] at key ⊢;refine .region ?_;simp only[rJ,oH,List.length_nil,Nat.reduceAdd,lU,List.range,List.range.loop];refine GW.recover (ps:=[]) rfl rfl rfl rfl (by kernel_rfl) rfl ?_;walk_nrm;exact key
 .refine GW.out (f:=111) (.inl rfl) func111 (by decide) rfl ?_;rw[enter_atD (P:=qp0) (f:=111) (fn:=Tryz.f111) (c:=Xf) #[pv rb] func111 rfl];have e0:(#[pv rb]++Array.replicate (Tryz.f111.ntmps-#[pv rb].size) au:Array Value)=#[pv rb,au,au,au,au,au,au,au,au,au,au,au,au,au,au,au,au,au,au,au,au,au,au]:=by kernel_rfl
  rw[e0,WE];refine .seq ?_;refine .seq ?_;have key:=Qo (S:=S) (Φ:=Φ) hC (ok:=false) (v:=.nilIface) (c1:={bR.at ⟨over (mk lb qb F9 x) t,[]⟩ todo with mode:=.returning}) (R1:={bR.at ⟨over (mk lb qb F9 x) t,[]⟩ todo with mode:=.returning}) (cs:=c74::cs) hwk.row hx.bx hx.r1 hst hrb hoff (fun _=>rfl) .nilIface afq (fun u=>rfl) hend;simp only[re0,Xf,Tryz.f111,Option.getD_some] at key ⊢;refine .region ?_;simp only[rJ,oH,List.length_nil,Nat.reduceAdd,lU,List.range,List.range.loop];refine GW.VW rfl rfl rfl rfl (by kernel_rfl) rfl ?_;walk_nrm;exact key
end
def dw(c:Nat):Deferred:={target:=.builtin .close #[142] 0 #[false],args:=#[.chan (some c)]}
def Gf(lb yF qb:Nat):Deferred:={target:=.fn (.func 74) #[pv lb,pv yF,pv qb],args:=#[]}
noncomputable def Gh(d:Deferred):Frame:={(default:Frame) with fn:=qp0.funcs.size,defers:=[d],mode:=.panicking [goexitEntry]}
noncomputable def DJ:Frame:={(default:Frame) with fn:=qp0.funcs.size,defers:=[],mode:=.panicking [goexitEntry]}
noncomputable def flB:Code:=Tryz.f74.body.getD .skip
noncomputable def fl0:Code:=match flB with|.seq c _=>c|_=>.skip
noncomputable def fl1:Code:=match flB with|.seq _ c=>c|_=>.skip
theorem ado:flB=.seq fl0 fl1:=by kernel_rfl
noncomputable def QO:Array Oper:=match fl1 with|.region _ ops _=>ops|_=>#[]
noncomputable def flF(lb yF qb wb c:Nat):Frame:=(baseD 74).at ⟨#[pv lb,pv yF,pv qb,.chan (some c),pv wb,cB lb qb,au],[dw c]⟩ [.inRegion QO [2]]
noncomputable def afL(lb yF qb wb c:Nat):Frame:={(baseD 74).at ⟨#[pv lb,pv yF,pv qb,.chan (some c),pv wb,cB lb qb,.tuple #[]],[dw c]⟩ [] with mode:=.returning}
section
variable {S:Nat->Prop}{Φ:Frame->List Frame->World->Prop}
theorem acJ(lb yF qb wb c:Nat){cs:List Frame}{w:World}(h:GW qp0 (iM ε) S Φ (afL lb yF qb wb c) cs w):GW qp0 (iM ε) S Φ ((flF lb yF qb wb c).finish (.tuple #[])) cs w:=by
 unfold flF QO;simp only[fl1,flB,Tryz.f74,Option.getD_some];rw[fin_at rfl];walk_nrm;refine .rend ?_;exact .fin h
end
end St
end
section
open Go.Conc
open Cc (tp)
namespace St
open Sr (GW WS qY Qt bT kg vB fK Tk gB dR fQ bU over iM dW kW uE oN)
variable {ε:Nat×Nat}
def und(n:Nat):Array Value:=Array.replicate n au
section
variable {S:Nat->Prop}{c:Nat}{Φ:Frame->List Frame->World->Prop}
theorem XZ(lb yF qb wb:Nat)(w:World)(hl:w.cell? ⟨lb,0,none⟩=some (.chan (some c)))(hp:w.cell? ⟨yF,0,none⟩=some (pv wb))(next:GW qp0 (iM ε) S Φ (bR.at ⟨#[pv wb,cB lb qb]++und 111,[]⟩ [.code rE]) (flF lb yF qb wb c::[DJ]) w):GW qp0 (iM ε) S Φ (Gh (Gf lb yF qb)) [] w:=by
 have e:Gh (Gf lb yF qb)={(DJ).at ⟨#[],[Gf lb yF qb]⟩ [] with mode:=.panicking [goexitEntry]}:=by
  unfold Gh DJ Frame.at;rfl
 rw[e];refine GW.out (f:=74) (.inr ⟨_,rfl⟩) func74 (by decide) rfl ?_;have e1:({(DJ).at ⟨#[],[]⟩ [] with mode:=.panicking [goexitEntry]}:Frame)=DJ:=by unfold DJ Frame.at;rfl
 rw[e1];rw[enter_atD (P:=qp0) (f:=74) (fn:=Tryz.f74) (c:=flB) #[pv lb,pv yF,pv qb] func74 rfl];have e0:(#[pv lb,pv yF,pv qb]++Array.replicate (Tryz.f74.ntmps-#[pv lb,pv yF,pv qb].size) au:Array Value)=#[pv lb,pv yF,pv qb,au,au,au,au]:=by kernel_rfl
 rw[e0,ado];refine .seq ?_;simp only[fl0,flB,Tryz.f74,Option.getD_some];refine .region ?_;simp only[rJ,oH,List.length_nil,Nat.reduceAdd,lU,List.range,List.range.loop];refine .val rfl rfl (by decide) (by kernel_rfl) (by simp) (.chan (some c)) w (fun τ d=>(jR (w:=tp w τ d) rfl rfl ⟨_,underlying142,trivial⟩ hl).1) (fun τ d e he=>by rw[(jR (w:=tp w τ d) rfl rfl ⟨_,underlying142,trivial⟩ hl).2] at he;simp at he;subst he;exact fun _ _ _=>rfl) ?_;walk_nrm;refine .dfr (dd:=dw c) rfl rfl (by decide) (by kernel_rfl) (by simp) (fun ω=>by constructor <;> kernel_rfl) ?_;walk_nrm;refine .rend ?_;have hfl:flF lb yF qb wb c=(baseD 74).at ⟨#[pv lb,pv yF,pv qb,.chan (some c),pv wb,cB lb qb,au],[dw c]⟩ [.inRegion QO [2]]:=rfl;rw[hfl] at next
 unfold QO at next
 simp only[fl1,flB,Tryz.f74,Option.getD_some] at next ⊢
 refine .region ?_;simp only[rJ,oH,List.length_nil,Nat.reduceAdd,lU,List.range,List.range.loop];refine .val rfl rfl (by decide) (by kernel_rfl) (by simp) (pv wb) w (fun τ d=>(jR (w:=tp w τ d) rfl rfl ⟨_,underlying77,trivial⟩ hp).1) (fun τ d e he=>by rw[(jR (w:=tp w τ d) rfl rfl ⟨_,underlying77,trivial⟩ hp).2] at he;simp at he;subst he;exact fun _ _ _=>rfl) ?_;walk_nrm;refine .still rfl rfl (by decide) (by kernel_rfl) (by simp) (cB lb qb) (fun ω=>Jk (vs:=#[pv lb,pv qb]) rfl (by simp[Act.eval]) ω) ?_;walk_nrm;refine .enter rfl rfl (by decide) (by kernel_rfl) (by simp) 75 #[pv wb,cB lb qb] (fun ω=>QJ (vs:=#[pv wb,cB lb qb]) (caps:=#[]) rfl rfl (by simp[Act.eval]) func75 (by decide) rfl ω) ?_;rw[enter_at (P:=qp0) (f:=75) (fn:=Tryz.f75) (c:=rE) #[pv wb,cB lb qb] func75 rfl];have e2:(#[pv wb,cB lb qb]++Array.replicate (Tryz.f75.ntmps-#[pv wb,cB lb qb].size) au:Array Value)=#[pv wb,cB lb qb]++und 111:=by kernel_rfl
 rw[e2];exact next
end
section
variable {P:Program}{a:Act}{o:Oper}{x y:Operand}{t:TypeId}
theorem Ef{q:Option Addr}(hop:o.op=.box t x)(hx:a.eval x=.pointer q)(w:World):(execOp a.eval o).run P w=.ok (.value (pv w.heap.size)) (w.alloc (.cells #[.pointer q] t))/\(execOp a.eval o).events P w #[]=#[]:=by
 simp only[Act.eval,Az] at hx;unfold execOp;simp[go_sem,hop,hx,Instr.box,newVar,newRow,Value.cells,pv]
end
noncomputable def ru0:Code:=match rE with|.seq c _=>c|_=>.skip
noncomputable def ru1:Code:=match rE with|.seq _ (.seq c _)=>c|_=>.skip
theorem aac:rE=.seq ru0 (.seq ru1 (.block 0 (.loop LB))):=by kernel_rfl
def f9V(rb:Nat):Value:=.func (.func 111) #[] #[pv rb]
def t0V(wb rb:Nat):Array Value:=#[pv wb,au,pv rb]++und 110
section
variable {S:Nat->Prop}{Φ:Frame->List Frame->World->Prop}
theorem Tc(lb qb wb:Nat)(w:World)(hS:∀ b,S b->b<w.heap.size){cs:List Frame}(next:GW qp0 (iM ε) S Φ (bR.at ⟨over (mk lb qb (f9V w.heap.size) au) (t0V wb w.heap.size),[vK w.heap.size]⟩ [.code LB,.inLoop LB,.inBlock 0]) cs (w.alloc (.cells #[pv wb] 77))):GW qp0 (iM ε) S Φ (bR.at ⟨#[pv wb,cB lb qb]++und 111,[]⟩ [.code rE]) cs w:=by
 rw[aac];refine .seq ?_;simp only[ru0,rE,Tryz.f75,Option.getD_some];refine .region ?_;simp only[rJ,oH,List.length_nil,Nat.reduceAdd,lU,List.range,List.range.loop];have hx:(⟨#[pv wb,cB lb qb]++und 111,[]⟩:Act).eval (.tmp 0)=.pointer (some ⟨wb,0,none⟩):=by kernel_rfl
 refine .val rfl rfl (by decide) (by kernel_rfl) (by simp) (pv w.heap.size) (w.alloc (.cells #[pv wb] 77)) (fun τ d=>(Ef rfl hx _).1) (fun τ d e he=>by rw[(Ef rfl hx _).2] at he;simp at he) ?_ (hf:=Sr.wY hS _);refine .rend ?_;refine .seq ?_;simp only[ru1,rE,Tryz.f75,Option.getD_some];refine .region ?_;simp only[rJ,oH,List.length_nil,Nat.reduceAdd,lU,List.range,List.range.loop];have hy:#[Operand.tmp 2].map (Act.put ⟨#[pv wb,cB lb qb]++und 111,[]⟩ (some 2) (pv w.heap.size)).eval=#[pv w.heap.size]:=by kernel_rfl
 refine .still rfl rfl (by decide) (by kernel_rfl) (by simp) (f9V w.heap.size) (fun ω=>Jk rfl hy ω) ?_;have hz:∀ ω,(execOp ((Act.put ⟨#[pv wb,cB lb qb]++und 111,[]⟩ (some 2) (pv w.heap.size)).put (some 9) (f9V w.heap.size)).eval {dst:=none,op:=Op.defer {callee:=Callee.value (Operand.tmp 9),args:=#[],argTypes:=#[]},type:=0,pos := "stream.go:148",after:=#[{on:=0,ground:=Ground.data}],guard:=none}).run qp0 ω=.ok (.defer (vK w.heap.size)) ω/\(execOp ((Act.put ⟨#[pv wb,cB lb qb]++und 111,[]⟩ (some 2) (pv w.heap.size)).put (some 9) (f9V w.heap.size)).eval {dst:=none,op:=Op.defer {callee:=Callee.value (Operand.tmp 9),args:=#[],argTypes:=#[]},type:=0,pos := "stream.go:148",after:=#[{on:=0,ground:=Ground.data}],guard:=none}).events qp0 ω #[]=#[]:=fun ω=>by constructor <;> kernel_rfl
 refine .dfr (dd:=vK w.heap.size) rfl rfl (by decide) (by kernel_rfl) (by simp) hz ?_;refine .rend ?_;refine .block ?_;refine .loop ?_;have e:(Act.put ⟨((Act.put ⟨#[pv wb,cB lb qb]++und 111,[]⟩ (some 2) (pv w.heap.size)).put (some 9) (f9V w.heap.size)).tmps,vK w.heap.size::((Act.put ⟨#[pv wb,cB lb qb]++und 111,[]⟩ (some 2) (pv w.heap.size)).put (some 9) (f9V w.heap.size)).defers⟩ none au)=⟨over (mk lb qb (f9V w.heap.size) au) (t0V wb w.heap.size),[vK w.heap.size]⟩:=by kernel_rfl
 have e3:=congrArg (fun z=>GW qp0 (iM ε) S Φ (bR.at z [.code LB,.inLoop LB,.inBlock 0]) cs (w.alloc (.cells #[pv wb] 77))) e;exact e3.mpr next
end
end St
end
section
open Go.Conc
open Cc (tp)
namespace St
open Sr (GW WS qY Qt bT kg vB fK Tk gB dR fQ bU over iM dW kW uE oN)
variable {ε:Nat×Nat}
theorem Xn{P:Program}{R:Nat->Nat->Prop}{L:FuncId->Bool}{K:Op->Bool}{x y:Frame}(h:Sr.rF P R L K Sr.O0 x y):∃ t d m,y={fn:=x.fn,tmps:=t,todo:=x.todo,defers:=d,mode:=m,kind:=x.kind,roundOf:=none}/\Sr.AV R L x.tmps t/\Sr.DL R L x.defers d/\Sr.MR R L x.mode m:=by
 obtain⟨fn,tmps,todo,defers,mode,kind,ro⟩:=y;obtain⟨h1,⟨tm,h2,h2'⟩,h3,_,⟨d,h5,h5'⟩,h6,h7,_,_,_,h10⟩:=h;have h3:todo=x.todo:=h3;have h2':tmps=tm:=h2';have hdd:defers=d:=h5.trans (Qq _);have h5':Sr.DL R L x.defers d:=h5';have h7:kind=x.kind:=h7;have h1:fn=x.fn:=h1;have h10:ro=none:=h10;subst h1 h2' h3 h7 h10;rw[hdd];exact⟨_,_,_,rfl,h2,h5',h6⟩
theorem Xk{R:Nat->Nat->Prop}{L:FuncId->Bool}{c:Nat}{d:List Deferred}(h:Sr.DL R L [dw c] d):d=[dw c]:=by
 cases h with
 | @cons _ y _ b h k =>
  cases k
  obtain⟨t,a⟩:=y;obtain⟨h1,h2⟩:=h;have h2:Sr.AV R L #[.chan (some c)] a:=h2;have h1:Sr.TR R L (.builtin .close #[142] 0 #[false]) t:=h1
  cases h1
  have:(#[.chan (some c)]:Array Value)=a:=by
   refine TS h2.1 fun i hi hj=>?_
   have h3:=h2.2 i _ _ (mJ hi) (mJ hj);have:i=0:=by simp at hi;exact hi
   subst this;have h3:Sr.VR R L (.chan (some c)) a[0]:=h3;generalize a[0]=u at h3
   cases h3
   rfl
  subst this;rfl
theorem aeJ{R:Nat->Nat->Prop}{L:FuncId->Bool}{m:FrameMode}(h:Sr.MR R L (.panicking [goexitEntry]) m):m=.panicking [goexitEntry]:=by
 cases h with
 | panicking h =>
  cases h with
  | cons hv hr hg k =>
   rename_i y b
   cases k
   obtain⟨v,r,g⟩:=y;simp only at hv hr hg;subst hr hg;have hv:Sr.VR R L goexitEntry.v v:=hv;have:v=goexitEntry.v:=by
    have hv:Sr.VR R L (.tuple #[]) v:=hv;show v=.tuple #[]
    cases hv with
    | tuple _ y hx _=>rw[Array.size_eq_zero_iff.1 hx.symm]
   subst this;rfl
def Eh(t:Array Value)(d:List Deferred):Frame:={fn:=74,tmps:=t,todo:=[],defers:=d,mode:=.returning,kind:=.deferred,roundOf:=none}
noncomputable def xI(t:Array Value):Frame:={fn:=qp0.funcs.size,tmps:=t,todo:=[],defers:=[],mode:=.panicking [goexitEntry],kind:=.normal,roundOf:=none}
theorem PS(t t':Array Value):QuitsIn qp0 2 (G (Eh t []) [xI t']):=by
 refine .inr ⟨rfl,G (xI t') [],fun w=>?_,?_⟩
 .simp[G,stepG,unwind,doReturn,results,Eh,xI,func74,Tryz.f74,seen,GStep.after,goexitEntry]
 refine .inr ⟨rfl,{G (xI t') [] with status:=.finished},fun w=>?_,rfl⟩;simp[G,stepG,unwind,xI,goexitEntry,Frame.catches]
theorem Md{K:Op->Bool}{c:Nat}(lb yF qb wb:Nat):Sr.Closing qp0 (iM ε) K c (afL lb yF qb wb c) [DJ]:=by
 intro R aB χ h
 cases h with
 | up h hz k =>
  cases k with
  | bot k _ _ _ =>
   obtain⟨t,d,m,rfl,_,hd,hm⟩:=Xn h;obtain⟨t',d',m',rfl,_,hd',hm'⟩:=Xn k;have hd:Sr.DL R (iM ε) [dw c] d:=hd;have hm:Sr.MR R (iM ε) .returning m:=hm;have hd':Sr.DL R (iM ε) [] d':=hd';have hm':Sr.MR R (iM ε) (.panicking [goexitEntry]) m':=hm';obtain rfl:=Xk hd;obtain rfl:=aeJ hm'
   cases hm
   cases hd'
   refine⟨rfl,rfl,G (Eh t []) [xI t'],2,fun w s r tm hc=>?_,PS t t'⟩;show stepG qp0 false (G (Eh t [dw c]) [xI t']) w=_;have hr:(invoke (dw c).target (dw c).args).run qp0 w=.ok (.value (.tuple #[])) (w.setChan c 0 #[] true s r tm):=by
    simp[dw,invoke,go_sem,run_close_open _ _ hc,World.setChan]
   have he:(invoke (dw c).target (dw c).args).events qp0 w #[]=#[⟨.obj c,false,true⟩,⟨.obj c,true,true⟩]:=by
    simp[dw,invoke,go_sem,events_close_open _ _ hc]
   have hrt:(invoke (dw c).target (dw c).args).runT qp0 w #[]=(.ok (.value (.tuple #[])) (w.setChan c 0 #[] true s r tm),#[⟨.obj c,false,true⟩,⟨.obj c,true,true⟩]):=Prod.ext ((Sem.runT_fst ..).trans hr) he;have ae6:seen qp0 74 #[⟨.obj c,false,true⟩,⟨.obj c,true,true⟩]=#[⟨.obj c,false,true⟩,⟨.obj c,true,true⟩]:=by
    refine seen_eq (by simp[func74,Tryz.f74]) ?_;intro e he f;simp only[qch,rD,xS,or_false] at he;rcases he with rfl|rfl <;> simp
   have e:stepG qp0 false (G (Eh t [dw c]) [xI t']) w=callDeferred qp0 (Eh t []) [xI t'] none (dw c) w:=rfl;rw[e];unfold callDeferred;rw[if_neg (by simp[dw])];rw[hrt];dsimp only
   rw[show(Eh t []).fn=74 from rfl,ae6];simp[GStep.after,G]
def abg(C:Cn)(R:Plain.Pz)(vs:List Value)(wg:World):Prop :=∃ A s,s.held=R.held/\Zg C A R.off s R.code R.off wg/\qH wg C.w0.heap.size vs R.ents/\∀ b,b<C.w0.heap.size->wg.heap[b]? = C.w0.heap[b]?
section
variable {K:Op->Bool}{S:Nat->Prop}{c:Nat}{Sh:Value->Prop}
theorem UE{C:Cn}(hC:C.Ok){A:Ad}{lb yF qb:Nat}{D:Nat->Prop}(w:World)(hl:w.cell? ⟨lb,0,none⟩=some (.chan (some c)))(hp:w.cell? ⟨yF,0,none⟩=some (pv C.wb))(hq:w.cell? ⟨qb,0,none⟩=some (.chan none))(l1:lb≠C.wb)(l2:lb≠C.mb)(q1:qb≠C.wb)(q2:qb≠C.mb)(hw:Wk (C.tp w.tape) A 0 bW.zero w)(hcl:bU qp0 (dW ε) S D #[] w)(hwb:D C.wb)(U2:∀ e x,Sh (.agg (sS (e,x)))):WS qp0 (iM ε) K S c Sh (abg C (Plain.fC C.data C.lim (C.data.length+1) 0 bW.zero)) (Plain.fC C.data C.lim (C.data.length+1) 0 bW.zero).ents.length [] (Gh (Gf lb yF qb)) [] w:=by
 have hS:∀ b,S b->b<w.heap.size:=fun b hb=>(hcl.off b hb).2
 have hf:C.data.length - 0<C.data.length+1:=by omega
 revert hf;generalize C.data.length+1=f;intro hf;refine(Sr.gT ..).2 (XZ lb yF qb C.wb w hl hp (Tc lb qb C.wb w hS ((Sr.gT ..).1 ?_)));have hbel:Below w.heap.size w (w.alloc (.cells #[pv C.wb] 77)):=(Below.refl _ _).alloc (aY _) _;have H6:∀ b,Sr.grown D w.heap.size 1 b->Sr.VR (Sr.mQ (Sr.grown D w.heap.size 1)) (dW ε) (pv b) (pv b):=fun b hb=>.ptr _ _ ⟨⟨rfl,hb⟩,rfl,rfl⟩
 have hg:=nu hcl (ob:=.cells #[pv C.wb] 77) (.cells _ _ _ _ (dz (by intro u hu;simp at hu;subst hu;exact H6 _ (.inl hwb))));have hrow:(w.alloc (.cells #[pv C.wb] 77)).heap[w.heap.size]? = some (.cells #[pv C.wb] 77):=JL;have acE:C.wb<w.heap.size:=(fT.1 hw.row).1;have agW:C.mb<w.heap.size:=hw.long.lt;have AY:Sr.AV (Sr.mQ (Sr.grown D w.heap.size 1)) (dW ε) (t0V C.wb w.heap.size) (t0V C.wb w.heap.size):=by
  unfold t0V und;refine Sr.AV.app (dz ?_) (Sr.AV.abx _ Sr.dG);intro u hu;simp only[rD,xS,or_false] at hu;rcases hu with rfl|rfl|rfl
  .exact H6 _ (.inl hwb)
  .exact Sr.dG
  .exact H6 _ (.inr (by omega))
 have hst:bU qp0 (dW ε) S (Sr.grown D w.heap.size 1) (t0V C.wb w.heap.size) (w.alloc (.cells #[pv C.wb] 77)):=⟨hg.off,hg.gb,hg.bnd,hg.heap,AY⟩;have hfx:Fx C w.heap.size lb qb c (w.alloc (.cells #[pv C.wb] 77)) :=⟨⟨hrow⟩,by omega,by omega,by rw[hbel.cell (World.block_lt_of_cell? (w:=w) (a:=⟨lb,0,none⟩) hl)];exact hl,l1,l2,by rw[hbel.cell (World.block_lt_of_cell? (w:=w) (a:=⟨qb,0,none⟩) hq)];exact hq,q1,q2⟩
 refine Ny hC w.heap.size lb qb (f9V w.heap.size) [vK w.heap.size] (by simp) U2 f 0 bW.zero A (w.alloc (.cells #[pv C.wb] 77)) (Sr.grown D w.heap.size 1) (t0V C.wb w.heap.size) au [] [] hf (hw.below hbel) hfx (qH.nil _ _) hst (by kernel_rfl) (by kernel_rfl) fun vs' fr' w' hre=>?_
 rw[yG] at hre;have agR:=hre;obtain⟨t,x,todo,A',s,D',hh,hwk,_,_,_,_,_⟩:=agR;refine(Sr.gT ..).2 (aa4 hC hre fun A2 s2 w2 hs2 hch ag5 agt=>acJ lb yF qb C.wb c (.stop fun τ d=>⟨Md lb yF qb C.wb,A2,s2,hs2,ag5,agt,fun b hb=>?_⟩));have h1:=hC.wb;have h2:=hwk.bJ.block b hb;have h3:=hch.block b (CW hb hwk.bJ.size) (by omega);exact h3.trans h2
end
end St
end
section
open Go.Conc
open Cc (tp)
namespace St
open Sr (MG RM gZ AtRecv Rel dh oV tN wo wT Bp tZ IL wm)
noncomputable def iW:Code:=Tryz.f16.body.getD .skip
noncomputable def LP:Code:=match iW with|.seq _ (.seq _ (.seq _ (.seq _ (.seq (.seq _ (.block _ (.loop c))) _))))=>c|_=>.skip
noncomputable def LP2:Code:=match LP with|.seq _ r=>r|_=>.skip
noncomputable def YP:Code:=match iW with|.seq _ (.seq _ (.seq _ (.seq _ (.seq _ y))))=>y|_=>.skip
noncomputable def VP:Array Oper:=match iW with|.seq _ (.seq _ (.seq _ (.seq _ (.seq (.seq (.region _ ops _) _) _))))=>ops|_=>#[]
noncomputable def Gv:Array Oper:=match LP with|.seq (.region _ ops _) _=>ops|_=>#[]
def bP:Frame:=base 16
noncomputable def PV(cs:List Frame)(t:Array Value)(rest:List Nat):Goroutine:=G (bP.at ⟨t,[]⟩ [.inRegion Gv rest,.code LP2,.inLoop LP,.inBlock 0,.code YP]) cs
structure HP(wb rs c:Nat)(t:Array Value)(x:Option Addr)(i cp:Nat):Prop where
 size:t.size=36
 res:t.getD 4 au=pv rs
 wk:t.getD 5 au=pv wb
 list:t.getD 7 au=.slice x i cp
 chan:t.getD 19 au=.chan (some c)
theorem Vw{t:Array Value}(h:t.size=36):t=#[t.getD 0 au,t.getD 1 au,t.getD 2 au,t.getD 3 au,t.getD 4 au,t.getD 5 au,t.getD 6 au,t.getD 7 au,t.getD 8 au,t.getD 9 au,t.getD 10 au,t.getD 11 au,t.getD 12 au,t.getD 13 au,t.getD 14 au,t.getD 15 au,t.getD 16 au,t.getD 17 au,t.getD 18 au,t.getD 19 au,t.getD 20 au,t.getD 21 au,t.getD 22 au,t.getD 23 au,t.getD 24 au,t.getD 25 au,t.getD 26 au,t.getD 27 au,t.getD 28 au,t.getD 29 au,t.getD 30 au,t.getD 31 au,t.getD 32 au,t.getD 33 au,t.getD 34 au,t.getD 35 au]:=by
 have e:t=((List.range 36).map (fun i=>t.getD i au)).toArray:=by
  apply TS
  .simp[h]
  .intro i hi1 hi2;simp[hi1]
 exact e
def Wu(v:Value):Prop:=∃ xs:Array Value,v=.agg xs/\xs.size=11/\∀ u∈xs.toList,u.oneCell'=true
def flat(acc:List Value):List Value:=acc.flatMap fun v=>v.cells.toList
theorem Tt(acc:List Value)(xs:Array Value):flat (acc++[.agg xs])=flat acc++xs.toList:=by simp[flat,Value.cells]
structure Yy(n0:Nat)(X:Nat->Prop)(w:World)(x:Option Addr)(i cp:Nat)(acc:List Value):Prop where
 own:w.ownsRow n0 42 11 (.slice x i cp) i (flat acc)
 inX:∀ b,(Value.slice x i cp).ownBlock=some b->X b
 size:n0<=w.heap.size
section
variable {S:Nat->Prop}{Stop:(Nat->Prop)->Goroutine->World->Prop}
theorem Yy.rel{n0:Nat}{X:Nat->Prop}{w ω:World}{x:Option Addr}{i cp:Nat}{acc:List Value}(h:Yy n0 X w x i cp acc)(θ:Rel S X w ω):Yy n0 X ω x i cp acc:=⟨Sr.QI h.own h.inX θ,h.inX,tT h.size θ.size⟩
theorem YA:(qp0.info? 42).bind (·.zero)=some (.agg fZ):=by kernel_rfl
theorem ag8{n0 wb rs c:Nat}(cs:List Frame){t:Array Value}{x:Option Addr}{i cp:Nat}{acc:List Value}{xs:Array Value}(hP:HP wb rs c t x i cp)(ht:t.getD 20 au=.tuple #[.agg xs,.bool true])(hx:xs.size=11)(h1:∀ u∈xs.toList,u.oneCell'=true)(hlim:(i+1)*136<=140737488355328){X:Nat->Prop}{w:World}(hr:Yy n0 X w x i cp acc)(next:∀ (t':Array Value)(X':Nat->Prop)(w':World)(x':Option Addr)(cp':Nat),HP wb rs c t' x' (i+1) cp'->Yy n0 X' w' x' (i+1) cp' (acc++[.agg xs])->Stop X' (PV cs t' [0,1]) w'):MG qp0 S Stop 25 X (PV cs t [1]) w:=by
 have e:=Vw hP.size;rw[hP.res,hP.wk,hP.list,hP.chan,ht] at e;rw[e];clear e;have hc19:=hP.chan;clear hP ht;simp only[PV,Gv,LP2,LP,YP,iW,Tryz.f16,Option.getD_some] at next ⊢
 refine oV rfl rfl (by decide) _ (fun ω=>Cc.eP rfl rfl rfl ω) ?_;walk_nrm;refine dh rfl (fun _=>stepG_region_end) ?_;refine dh rfl (fun _=>stepG_seq) ?_;refine dh rfl (fun _=>stepG_cond (t:=true) rfl) ?_;simp only[if_true];refine dh rfl (fun _=>stepG_skip) ?_;refine dh rfl (fun _=>stepG_block) ?_;refine dh rfl (fun _=>stepG_seq) ?_;refine dh rfl (fun _=>stepG_region) ?_;simp only[rJ,oH,List.length_nil,Nat.reduceAdd,lU,List.range,List.range.loop];refine oV rfl rfl (by decide) _ (fun ω=>Cc.eP rfl rfl rfl ω) ?_;walk_nrm;refine wo rfl rfl (by decide) rfl rfl YA fun ω θ=>?_
 walk_nrm;have ra:Yy n0 (fun b=>X b\/b=ω.heap.size) (ω.alloc (.cells fZ 42)) x i cp acc:=⟨World.ownsRow.alloc (hr.rel θ).own _,fun b hb=>.inl (hr.inX b hb),by have:=(hr.rel θ).size;show n0<=(ω.heap.push _).size;simp;omega⟩;have hp:(ω.alloc (.cells fZ 42)).heap[ω.heap.size]? = some (.cells fZ 42 (0,0)):=heap_alloc_new ω _;have hlt:∀ k,(Value.slice x i cp).ownBlock=some k->k<ω.heap.size:=fun k hk=>((hr.rel θ).own.lt k hk).2
 generalize hpe:ω.heap.size=p at *
 generalize ω.alloc (.cells fZ 42)=wa at ra hp ⊢;refine wT rfl rfl (by decide) rfl rfl p rfl xs rfl fZ hp hx.symm (by rw[hx];kernel_rfl) h1 (.inr rfl) fun ψ Ξ=>?_
 walk_nrm;have rb:=ra.rel Ξ;have hp2:ψ.heap[p]? = some (.cells fZ 42 (0,0)):=(Ξ.own p (.inr rfl)).trans hp;have rc:Yy n0 (fun b=>X b\/b=p) (ψ.setRow p xs) x i cp acc:=⟨Cc.NP rb.own hlt _,rb.inX,by have:=rb.size;simp;exact this⟩;have hp3:(ψ.setRow p xs).heap[p]? = some (.cells xs 42 (0,0)):=setRow_heap _ _ _ _ _ _ hp2;generalize ψ.setRow p xs=ws at rc hp3 ⊢;refine dh rfl (fun _=>stepG_region_end) ?_;refine dh rfl (fun _=>stepG_region) ?_;simp only[rJ,oH,List.length_nil,Nat.reduceAdd,lU,List.range,List.range.loop];refine tN rfl rfl (by decide) (.inl rfl) ?_;walk_nrm;refine Bp rfl rfl (by decide) rfl p rfl xs hp3 underlying42 (by rw[hx];kernel_rfl) (.inr rfl) ?_;walk_nrm;refine tZ rfl rfl (by decide) rfl rfl underlying27 xs (by rw[hx];kernel_rfl) (z:=fZ) hx.symm (by omega) (by omega) rfl fun w₃ h₃=>?_
 walk_nrm;have rd:Yy n0 (fun b=>(X b\/b=p)\/b=w₃.heap.size) (w₃.alloc (.cells xs 42)) x i cp acc:=⟨World.ownsRow.alloc (rc.rel h₃).own _,fun b hb=>.inl (rc.inX b hb),by have:=(rc.rel h₃).size;show n0<=(w₃.heap.push _).size;simp;omega⟩;have hsrc:wh (w₃.alloc (.cells xs 42)) 11 (some ⟨w₃.heap.size,0,none⟩) 1 1 xs.toList:=pq w₃ 42 11 1 xs (by rw[hx]) (by decide);refine IL rfl rfl (by decide) rfl rfl 42 _ 11 136 underlying27 FW rfl (by decide) (by decide) rfl rd.own rd.inX rfl (.inr rfl) hsrc h1 hlim rd.size fun w₄ a' c' w' X' h₄ g1 g2 g3 g4=>?_
 walk_nrm;have re:Yy n0 X' w' a' (i+1) c' (acc++[.agg xs]):=⟨by rw[Tt];exact g1,g2,tT (rd.rel h₄).size g4⟩;refine tN rfl rfl (by decide) (.inr rfl) ?_;walk_nrm;refine dh rfl (fun _=>stepG_region_end) ?_;refine dh rfl (fun _=>stepG_inBlock) ?_;refine dh rfl (fun _=>stepG_inLoop) ?_;refine dh rfl (fun _=>stepG_seq) ?_;refine dh rfl (fun _=>stepG_region) ?_;simp only[rJ,oH,List.length_nil,Nat.reduceAdd,lU,List.range,List.range.loop];exact wm fun w₅ h₅=>next _ X' w₅ a' c' ⟨rfl,rfl,rfl,rfl,rfl⟩ (re.rel h₅)
end
end St
end
section
open Go.Conc
open Cc (tp)
namespace St
open Sr (MG RM gZ AtRecv Rel dh oV tN wo wT Bp tZ IL wm)
theorem Ld{c:Nat}(cs:List Frame){t:Array Value}(h19:t.getD 19 au=.chan (some c))(w:World):stepG qp0 true (PV cs t [0,1]) w=.comm (core (PV cs t [0,1])) #[rcase c (.agg fZ)] true (.recv true) w #[]:=by
 obtain⟨i,hi,h0⟩:=qbc.1 YA;have hev:(⟨t,[]⟩:Act).eval (.tmp 19)=.chan (some c):=h19;simp only[Act.eval,Az] at hev;simp only[PV,Gv,LP,iW,Tryz.f16,Option.getD_some,core_G];rw[stepG_comm (cases:=#[rcase c (.agg fZ)]) (blocking:=true) (shape:=.recv true) (w':=w) rfl rfl (by decide) (by simp[go_sem,hev,rcase,run_underlying underlying80,zeroValue,typeInfo,hi,h0])];refine congrArg (fun es=>GStep.comm _ _ _ _ _ es) (listed_none ?_);unfold execOp;simp[go_sem,hev,underlying80,zeroValue,typeInfo,hi,h0]
theorem EO(cs:List Frame)(t:Array Value)(v:Value):Go.Conc.served (core (PV cs t [0,1])) v=PV cs (t.setIfInBounds 20 v) [1]:=by
 simp only[PV,Gv,LP,iW,Tryz.f16,Option.getD_some,core_G,served_G];rfl
theorem HP.set{wb rs c:Nat}{t:Array Value}{x:Option Addr}{i cp:Nat}(h:HP wb rs c t x i cp)(v:Value):HP wb rs c (t.setIfInBounds 20 v) x i cp :=⟨by simp[h.size],by rw[getD_set_ne (by decide)];exact h.res,by rw[getD_set_ne (by decide)];exact h.wk,by rw[getD_set_ne (by decide)];exact h.list,by rw[getD_set_ne (by decide)];exact h.chan⟩
def ZG(n0 wb rs c:Nat)(cs:List Frame)(acc:List Value)(X:Nat->Prop)(g:Goroutine)(w:World):Prop :=∃ (t:Array Value)(x:Option Addr)(cp:Nat),g=PV cs t [1]/\HP wb rs c t x acc.length cp/\t.getD 20 au=.tuple #[.agg fZ,.bool false]/\Yy n0 X w x acc.length cp acc
section
variable {S:Nat->Prop}
theorem Xd{n0 wb rs c:Nat}(cs:List Frame)(K:Nat)(hK:K*136<=140737488355328):∀ (m:Nat)(acc:List Value)(X:Nat->Prop)(t:Array Value)(x:Option Addr)(cp:Nat)(w:World),HP wb rs c t x acc.length cp->Yy n0 X w x acc.length cp acc->acc.length+m=K ->
  gZ qp0 S c (.agg fZ) Wu (ZG n0 wb rs c cs) m acc X (PV cs t [0,1]) w
 | 0,acc,X,t,x,cp,w,hP,hr,hm=>by
  refine⟨rfl,⟨#[],Ld cs hP.chan w,by simp⟩,?_⟩;rw[EO];exact⟨_,x,cp,rfl,hP.set _,gq (by rw[hP.size];decide),hr⟩
 | m+1,acc,X,t,x,cp,w,hP,hr,hm=>by
  refine⟨rfl,⟨#[],Ld cs hP.chan w,by simp⟩,fun v hv=>?_⟩;obtain⟨xs,rfl,hx,h1⟩:=hv;rw[EO];have hle:(acc.length+1)*136<=K*136:=qbX _ (by omega);refine(Sr.Dk ..).2 ⟨25,ag8 cs (hP.set _) (gq (by rw[hP.size];decide)) hx h1 (by omega) hr fun t' X' w' x' cp' hP' hr'=>?_⟩;have hl:(acc++[Value.agg xs]).length=acc.length+1:=by simp
  exact Xd cs K hK m (acc++[.agg xs]) X' t' x' cp' w' (by rw[hl];exact hP') (by rw[hl];exact hr') (by rw[hl];omega)
end
theorem ac7{R:Nat->Nat->Prop}{L:FuncId->Bool}{v w:Value}(h:Sr.VR R L v w)(h1:v.oneCell'=true):w.oneCell'=true:=by
 cases h <;> first|rfl|(cases h1;done)|exact h1
theorem Wu.image{L:FuncId->Bool}:∀ (R:Nat->Nat->Prop)(v ν:Value),Sr.VR R L v ν->Wu v->Wu ν:=by
 rintro R v ν h ⟨xs,rfl,hx,h1⟩
 cases h with
 | agg x y hs hv =>
  refine⟨y,rfl,hs.symm.trans hx,fun u hu=>?_⟩;obtain⟨i,hi,rfl⟩:=List.mem_iff_getElem.1 hu;have hi':i<xs.size:=by rw[hs];simpa using hi
  have h2:=hv i _ _ (mJ hi') (mJ (by simpa using hi));have:=ac7 h2 (h1 _ (by simp));simpa using this
theorem Wu.en(e:En)(x:Option Addr×Nat×Nat):Wu (.agg (sS (e,x))):=⟨_,rfl,rfl,fun u hu=>aeg [(e,x)] u (by simpa[fG] using hu)⟩
end St
end
section
open Go.Maps (Keyed)
namespace St
def wk0(a:Option Addr)(n c:Nat)(lim:kG)(mb:Nat):Array Value :=#[.slice a n c,.int .i64 lim.name,.int .i64 lim.iP,.int .i64 0,.slice none 0 0,.int .i64 0,.int .i64 0,.int .i64 0,.slice none 0 0,.slice none 0 0,.int .i64 0,.map (some mb)]
def nV(lim:kG):Value:=.agg #[.int .i64 lim.name,.int .i64 lim.iP]
def rC(w:World)(lim:kG):World:=w.alloc (.cells #[.int .i64 lim.name,.int .i64 lim.iP] 24)
def Fy(w:World)(a:Option Addr)(n c:Nat)(lim:kG):World:=((rC w lim).alloc (.map #[] 0)).alloc (.cells (wk0 a n c lim (w.heap.size+1)) 85)
def agq(w:World)(a:Option Addr)(n c:Nat)(lim:kG)(e:Ending)(w':World):Prop :=(Plain.eT lim=true/\e=.returned (.tuple #[.pointer (some ⟨w.heap.size+2,0,none⟩),.bool true])/\w'=Fy w a n c lim) \/
 (Plain.eT lim=false/\e=.returned (.tuple #[.pointer none,.bool false])/\w'=rC w lim)
theorem RP(a:Option Addr)(n c:Nat)(lim:kG)(w:World):Calls qp0 40 #[.slice a n c,nV lim] w (agq w a n c lim):=by
 obtain⟨ln,lp⟩:=lim;have hmm:=@run_makeMap qp0;unfold nV;go_enter func40,ntmps40;by_cases h1:ln<1
 .go_wp2
  go_ret2;refine .inr ⟨?_,rfl,rfl⟩;simp[Plain.eT];omega
 by_cases h2:4096<ln
 .go_wp2
  go_ret2;refine .inr ⟨?_,rfl,rfl⟩;simp[Plain.eT];omega
 by_cases h3:lp<0
 .go_wp2
  go_ret2;refine .inr ⟨?_,rfl,rfl⟩;simp[Plain.eT];omega
 by_cases h4:1048576<lp
 .go_wp2
  go_ret2;refine .inr ⟨?_,rfl,rfl⟩;simp[Plain.eT];omega
 .go_wp2
  go_ret2;refine .inl ⟨?_,?_,?_⟩
  .simp[Plain.eT];omega
  .rfl
  .rfl
