/- J17 -/
import Derived.Test.YtdbgldieilgnmaaGreatDoorJ16
set_option linter.unusedVariables false
set_option linter.unusedSimpArgs false
set_option maxHeartbeats 8000000
set_option maxRecDepth 100000
namespace Go.Proofs.YtdbgldieilgnmaaGreatDoor
open Go.Proofs.Tryz
open Go.Proofs.Tryz renaming prog → qp0
open Go.ChangeShapes Go.WideShapes Go.ChangeAt Go.RowKit
section
namespace St
variable {P:Program}{ops:Array Oper}{Q:Exit->Act->World->Prop}{md:Region.Mode}{S:World->Prop}
theorem oK(i:Nat)(v:Value){oi:Oper}{fuel:Nat}{listed:Array Bool}{a:Act}{w:World}(h1:∀ w,S w->(execOp a.eval oi).run P w=.ok (.value v) w)(h2:wpAnyH P md ops Q S fuel (listed.setIfInBounds i true) (a.put oi.dst v) w)(hi:ops[i]? = some oi:=by rfl)(hs:Region.noSelect ops=true:=by kernel_rfl)(hf:Region.free md ops listed i=true:=by kernel_rfl)(hr:(Region.ready md ops listed).contains i=true:=by kernel_rfl)(hQ:∀ c a w,Q (.panic c) (a.put oi.dst v) w->Q (.panic c) a w:=by exact fun _ _ _ h=>h)(hw:Region.wanted oi (yielded ops a.tmps)=true:=by rfl)(hS:S w:=by assumption):wpAnyH P md ops Q S (fuel+1) listed a w :=wpAnyH_take hi hs hf hr hQ (Or.inl ⟨hw,h1⟩) hS h2
end St
end
section
open Go.Maps (Keyed)
namespace St
open Gr (aZ aD aN aO aX aG aS aU)
theorem lawB:Keyed qp0 5:=Maps.int_keyed underlying5
theorem Ec(w:World):(zeroValue 213).run qp0 w=.ok (.agg #[.string ⟨#[]⟩]) w:=by kernel_rfl
theorem Qm(x:UInt8):keyOf qp0 5 (.int .u8 (x.toNat:Int))=some (zG x):=by
 have hx:=x.toNat_lt;exact Maps.keyOf_int_mk underlying5 (WalkArith.wf_u8 (by omega))
theorem aam(s:bW):(gY s 76).getD (.agg #[.string ⟨#[]⟩])=.agg #[.string ⟨s.ln.toArray⟩]:=by
 unfold gY lgV;rw[if_pos rfl]
 cases s.ln <;> simp
theorem aae(s:bW):(gY s 75).getD (.agg #[.string ⟨#[]⟩])=.agg #[.string ⟨s.lr.toArray⟩]:=by
 unfold gY lgV;rw[if_neg (by decide),if_pos rfl]
 cases s.lr <;> simp
theorem Ep{C:Cn}{A:Ad}{o:Nat}{s:bW}{wr:World}(h:Wk C A o s wr):wr.cell? ⟨C.wb,8,none⟩=some (.slice A.ga A.gn A.gc)/\wr.cell? ⟨C.wb,9,none⟩=some (.slice A.la A.ln A.lc)/\wr.cell? ⟨C.wb,11,none⟩=some (.map (some C.mb)) /\ (Instr.lookup 83 (.map (some C.mb)) (.int .u8 76) false).run qp0 wr=.ok (.agg #[.string ⟨s.ln.toArray⟩]) wr/\(Instr.lookup 83 (.map (some C.mb)) (.int .u8 75) false).run qp0 wr=.ok (.agg #[.string ⟨s.lr.toArray⟩]) wr:=by
 have afX:=h.long.Kj (t:=83) lawB underlying83 (Ec _) 76 (Qm 76);have aeU:=h.long.Kj (t:=83) lawB underlying83 (Ec _) 75 (Qm 75);rw[aam] at afX;rw[aae] at aeU;exact⟨h.cell 8,h.cell 9,h.cell 11,afX,aeU⟩
theorem KG{wr:World}{hb:Nat}{h:Hd}(hr:wr.heap[hb]? = some (.cells (dQ h) 74)):wr.cell? ⟨hb,0,none⟩=some (.string ⟨h.name.toArray⟩)/\wr.cell? ⟨hb,1,none⟩=some (.string ⟨h.link.toArray⟩)/\wr.cell? ⟨hb,2,none⟩=some (.int .i64 h.mode)/\wr.cell? ⟨hb,3,none⟩=some (.int .i64 h.uid)/\wr.cell? ⟨hb,4,none⟩=some (.int .i64 h.gid)/\wr.cell? ⟨hb,5,none⟩=some (.int .i64 h.size)/\wr.cell? ⟨hb,6,none⟩=some (.int .i64 h.mtime)/\wr.cell? ⟨hb,7,none⟩=some (.int .u8 (h.ty.toNat:Int))/\wr.cell? ⟨hb,8,none⟩=some (.string ⟨h.user.toArray⟩)/\wr.cell? ⟨hb,9,none⟩=some (.string ⟨h.group.toArray⟩)/\wr.cell? ⟨hb,10,none⟩=some (.int .i64 h.major)/\wr.cell? ⟨hb,11,none⟩=some (.int .i64 h.minor)/\wr.cell? ⟨hb,12,none⟩=some (.int .i64 h.form):=by
 refine⟨?_,?_,?_,?_,?_,?_,?_,?_,?_,?_,?_,?_,?_⟩ <;> (rw[aG hr];rfl)
theorem NZ(v:ByteArray)(w:World):(Instr.field 213 (.agg #[.string v]) 0).run qp0 w=.ok (.string v) w:=by kernel_rfl
section
variable {P:Program}
theorem jS{ops:Array Oper}{o:Oper}{a:Act}{w:World}{K:Act->World->Prop}{Q:Exit->Act->World->Prop}{E:Prop}(hgd:o.guard=none)(ty:TypeId)(x y:Operand)(ho:o.op=.store ty x y)(g:Nat)(hx:a.eval x=.pointer (some ⟨g,0,none⟩))(cs:Array Value)(hy:a.eval y=.agg cs)(old:Array Value)(t:TypeId)(hh:w.heap[g]? = some (.cells old t (0,0)))(hsz:old.size=cs.size)(hi:(P.info? ty).map (·.size)=some cs.size)(h1:∀ u∈cs.toList,u.oneCell'=true)(h:K (a.put o.dst undef) (w.setRow g cs)):if Region.wanted o (yielded ops a.tmps)=true then Oper.wp P o a w K Q else E:=by
 have hw:Region.wanted o (yielded ops a.tmps)=true:=by simp[Region.wanted,hgd]
 rw[if_pos hw];unfold Oper.wp;obtain⟨i,hi',hs'⟩:=zA.1 hi;have hr:=run_storeCells_at (P:=P) g 0 t cs.toList 0 old w hh (by simp[hsz]) h1;have e:(old.toList.take (0+0)++cs.toList++old.toList.drop (0+0+cs.toList.length)).toArray=cs:=by
  simp[qa9,hsz]
 rw[e] at hr;simp[execOp,ho,hx,hy,Instr.storeAt,Instr.sureAddr,storeVar,sizeOf,typeInfo,hi',hs',Value.cells,hr,Result.andThen];exact h
end
theorem agS:True:=trivial
def ac1(w:World)(H:Array Value):World:=(w.alloc (.cells H 74)).alloc (.cells fZ 42)
def Tz(C:Cn)(A:Ad)(o:Nat)(h:Hd)(s:bW)(w:World)(e:Ending)(w':World):Prop :=(match Plain.entry C.data (o+512) h s with
  | .error c=>e=.panicked (mK c)/\Wk C A o s w'
  | .ok (en,size)=>∃ (A':Ad)(x:Option Addr×Nat×Nat),e=.returned (.tuple #[.agg (sS (en,x)),.int .i64 size])/\Wk C A' o (Plain.clean s) w'/\iw w' C.w0.heap.size (en,x))/\gL C w w'
theorem SS(C:Cn)(hC:C.Ok)(A:Ad)(o:Nat)(h:Hd)(s:bW)(w:World)(hw:Wk C A o s w)(ho:o+512<=C.dn)(hn:h.name.length<=140737488351232)(hs0:0<=h.size)(hs1:h.size<=9223372036854775807):Calls qp0 116 #[.pointer (some ⟨C.wb,0,none⟩),.agg (dQ h)] w (Tz C A o h s w):=by
 have HAP:=ah (fun (wr:World)(hb:Below w.heap.size w wr)=>Ov.TJ h A.ga A.la A.gn A.gc A.ln A.lc s.glob s.loc s.ln s.lr wr C.ev (hw.below hb).Rp (hw.below hb).afa hw.gb.prl hw.lb.prl (by have:=hw.Rp.len;have:=hw.gb.1;omega) (by have:=hw.afa.len;have:=hw.lb.1;omega) hn (by have:=hw.fit.2.2.2.1;have hl:=hC.lim;unfold Plain.eT at hl;have:=of_decide_eq_true hl;omega) (hC.ml.below (hw.below hb).bJ) (hC.er.below (hw.below hb).bJ));generalize hap:Plain.gG h s.glob s.loc s.ln s.lr=r at HAP;have HRR:=ah hap;clear hap;unfold Ov.apV at HAP;obtain⟨r1,r2,r3⟩:=r;simp only at HAP;have HO:=ah (jP h);have HI:=ah (mo h);have HEW:=ah (Ov.IU.new w (dQ h));have HW:=ah hw;have hbase:=hw.bJ.size;clear hw;go_enter func116,ntmps116;go_upto_region 1 with fail
 change Code.wp _ _ _ _ (ac1 w (dQ h))
 have Ij:Hid (Ov.IU w (dQ h) fZ (ac1 w (dQ h))):=HEW;clear HEW;generalize ac1 w (dQ h)=w1 at *
 have hwk:=HW.out.below Ij.out.bJ;have ML:=ah hwk;have hdd:Below w1.heap.size w1 w1.drew:=(Below.refl _ _).drew;have ahc:=NZ;have HD:=ah (And.intro (Ep (hwk.below hdd)) (KG (aU Ij.out.rh hdd)));have jZ:=ah (fun w' (hb:Below w1.heap.size w1 w')=>And.intro (Ep (hwk.below hb)) (KG (aU Ij.out.rh hb)));clear hdd hwk;go_cut [6,7,8] from 10 to 35 (fun v6 v7 v8 wx=>∃ (ge:Nat),v6=.pointer (some ⟨ge,0,none⟩)/\v7=.int .i64 r2/\v8=.int .i64 r3/\Hid (Below w1.heap.size w1 wx)/\Hid (w1.heap.size<=ge)/\Hid (wx.heap[ge]? = some (.cells (ru r1 none 0 0) 42)))
 case first =>
  refine wp_region_held_drew (S:=fun w':World=>Below w1.heap.size w1 w') (by kernel_rfl) ((Below.refl _ _).drew) (fun hHeld=>?_);refine oK 0 (.agg #[.string ⟨h.name.toArray⟩,.string ⟨h.link.toArray⟩,.int .i64 h.mode,.int .i64 h.uid,.int .i64 h.gid,.int .i64 h.size,.int .i64 h.mtime,.int .u8 (h.ty.toNat:Int),.string ⟨h.user.toArray⟩,.string ⟨h.group.toArray⟩,.int .i64 h.major,.int .i64 h.minor,.int .i64 h.form]) ?_ ?_
  .intro wz hSw;have hdy:=jZ.out wz hSw;obtain⟨⟨s1,s2,s3,s4,s5⟩,s6,s7,s8,s9,s10,s11,s12,s13,vo,s15,s16,uN,uW⟩:=hdy;go_simp
  (try simp only[Act.put,eu,dY,qzs,qzl])
  refine oK 1 (.pointer (some ⟨C.wb,0,none⟩)) ?_ ?_
  .intro wz hSw;have hdy:=jZ.out wz hSw;obtain⟨⟨s1,s2,s3,s4,s5⟩,s6,s7,s8,s9,s10,s11,s12,s13,vo,s15,s16,uN,uW⟩:=hdy;go_simp
  (try simp only[Act.put,eu,dY,qzs,qzl])
  refine oK 2 (.pointer (some ⟨C.wb,0,none⟩)) ?_ ?_
  .intro wz hSw;have hdy:=jZ.out wz hSw;obtain⟨⟨s1,s2,s3,s4,s5⟩,s6,s7,s8,s9,s10,s11,s12,s13,vo,s15,s16,uN,uW⟩:=hdy;go_simp
  (try simp only[Act.put,eu,dY,qzs,qzl])
  refine oK 3 (.pointer (some ⟨C.wb,8,none⟩)) ?_ ?_
  .intro wz hSw;have hdy:=jZ.out wz hSw;obtain⟨⟨s1,s2,s3,s4,s5⟩,s6,s7,s8,s9,s10,s11,s12,s13,vo,s15,s16,uN,uW⟩:=hdy;go_simp
  (try simp only[Act.put,eu,dY,qzs,qzl])
  refine oK 4 (.slice A.ga A.gn A.gc) ?_ ?_
  .intro wz hSw;have hdy:=jZ.out wz hSw;obtain⟨⟨s1,s2,s3,s4,s5⟩,s6,s7,s8,s9,s10,s11,s12,s13,vo,s15,s16,uN,uW⟩:=hdy;go_simp
  (try simp only[Act.put,eu,dY,qzs,qzl])
  refine oK 5 (.pointer (some ⟨C.wb,0,none⟩)) ?_ ?_
  .intro wz hSw;have hdy:=jZ.out wz hSw;obtain⟨⟨s1,s2,s3,s4,s5⟩,s6,s7,s8,s9,s10,s11,s12,s13,vo,s15,s16,uN,uW⟩:=hdy;go_simp
  (try simp only[Act.put,eu,dY,qzs,qzl])
  refine oK 6 (.pointer (some ⟨C.wb,0,none⟩)) ?_ ?_
  .intro wz hSw;have hdy:=jZ.out wz hSw;obtain⟨⟨s1,s2,s3,s4,s5⟩,s6,s7,s8,s9,s10,s11,s12,s13,vo,s15,s16,uN,uW⟩:=hdy;go_simp
  (try simp only[Act.put,eu,dY,qzs,qzl])
  refine oK 7 (.pointer (some ⟨C.wb,9,none⟩)) ?_ ?_
  .intro wz hSw;have hdy:=jZ.out wz hSw;obtain⟨⟨s1,s2,s3,s4,s5⟩,s6,s7,s8,s9,s10,s11,s12,s13,vo,s15,s16,uN,uW⟩:=hdy;go_simp
  (try simp only[Act.put,eu,dY,qzs,qzl])
  refine oK 8 (.slice A.la A.ln A.lc) ?_ ?_
  .intro wz hSw;have hdy:=jZ.out wz hSw;obtain⟨⟨s1,s2,s3,s4,s5⟩,s6,s7,s8,s9,s10,s11,s12,s13,vo,s15,s16,uN,uW⟩:=hdy;go_simp
  (try simp only[Act.put,eu,dY,qzs,qzl])
  refine oK 9 (.pointer (some ⟨C.wb,0,none⟩)) ?_ ?_
  .intro wz hSw;have hdy:=jZ.out wz hSw;obtain⟨⟨s1,s2,s3,s4,s5⟩,s6,s7,s8,s9,s10,s11,s12,s13,vo,s15,s16,uN,uW⟩:=hdy;go_simp
  (try simp only[Act.put,eu,dY,qzs,qzl])
  refine oK 10 (.pointer (some ⟨C.wb,0,none⟩)) ?_ ?_
  .intro wz hSw;have hdy:=jZ.out wz hSw;obtain⟨⟨s1,s2,s3,s4,s5⟩,s6,s7,s8,s9,s10,s11,s12,s13,vo,s15,s16,uN,uW⟩:=hdy;go_simp
  (try simp only[Act.put,eu,dY,qzs,qzl])
  refine oK 11 (.pointer (some ⟨C.wb,11,none⟩)) ?_ ?_
  .intro wz hSw;have hdy:=jZ.out wz hSw;obtain⟨⟨s1,s2,s3,s4,s5⟩,s6,s7,s8,s9,s10,s11,s12,s13,vo,s15,s16,uN,uW⟩:=hdy;go_simp
  (try simp only[Act.put,eu,dY,qzs,qzl])
  refine oK 12 (.map (some C.mb)) ?_ ?_
  .intro wz hSw;have hdy:=jZ.out wz hSw;obtain⟨⟨s1,s2,s3,s4,s5⟩,s6,s7,s8,s9,s10,s11,s12,s13,vo,s15,s16,uN,uW⟩:=hdy;go_simp
  (try simp only[Act.put,eu,dY,qzs,qzl])
  refine oK 13 (.agg #[.string ⟨s.ln.toArray⟩]) ?_ ?_
  .intro wz hSw;have hdy:=jZ.out wz hSw;obtain⟨⟨s1,s2,s3,s4,s5⟩,s6,s7,s8,s9,s10,s11,s12,s13,vo,s15,s16,uN,uW⟩:=hdy;go_simp
  (try simp only[Act.put,eu,dY,qzs,qzl])
  refine oK 14 (.string ⟨s.ln.toArray⟩) ?_ ?_
  .intro wz hSw;have hdy:=jZ.out wz hSw;obtain⟨⟨s1,s2,s3,s4,s5⟩,s6,s7,s8,s9,s10,s11,s12,s13,vo,s15,s16,uN,uW⟩:=hdy;go_simp
  (try simp only[Act.put,eu,dY,qzs,qzl])
  refine oK 15 (.pointer (some ⟨C.wb,0,none⟩)) ?_ ?_
  .intro wz hSw;have hdy:=jZ.out wz hSw;obtain⟨⟨s1,s2,s3,s4,s5⟩,s6,s7,s8,s9,s10,s11,s12,s13,vo,s15,s16,uN,uW⟩:=hdy;go_simp
  (try simp only[Act.put,eu,dY,qzs,qzl])
  refine oK 16 (.pointer (some ⟨C.wb,0,none⟩)) ?_ ?_
  .intro wz hSw;have hdy:=jZ.out wz hSw;obtain⟨⟨s1,s2,s3,s4,s5⟩,s6,s7,s8,s9,s10,s11,s12,s13,vo,s15,s16,uN,uW⟩:=hdy;go_simp
  (try simp only[Act.put,eu,dY,qzs,qzl])
  refine oK 17 (.pointer (some ⟨C.wb,11,none⟩)) ?_ ?_
  .intro wz hSw;have hdy:=jZ.out wz hSw;obtain⟨⟨s1,s2,s3,s4,s5⟩,s6,s7,s8,s9,s10,s11,s12,s13,vo,s15,s16,uN,uW⟩:=hdy;go_simp
  (try simp only[Act.put,eu,dY,qzs,qzl])
  refine oK 18 (.map (some C.mb)) ?_ ?_
  .intro wz hSw;have hdy:=jZ.out wz hSw;obtain⟨⟨s1,s2,s3,s4,s5⟩,s6,s7,s8,s9,s10,s11,s12,s13,vo,s15,s16,uN,uW⟩:=hdy;go_simp
  (try simp only[Act.put,eu,dY,qzs,qzl])
  refine oK 19 (.agg #[.string ⟨s.lr.toArray⟩]) ?_ ?_
  .intro wz hSw;have hdy:=jZ.out wz hSw;obtain⟨⟨s1,s2,s3,s4,s5⟩,s6,s7,s8,s9,s10,s11,s12,s13,vo,s15,s16,uN,uW⟩:=hdy;go_simp
  (try simp only[Act.put,eu,dY,qzs,qzl])
  refine oK 20 (.string ⟨s.lr.toArray⟩) ?_ ?_
  .intro wz hSw;have hdy:=jZ.out wz hSw;obtain⟨⟨s1,s2,s3,s4,s5⟩,s6,s7,s8,s9,s10,s11,s12,s13,vo,s15,s16,uN,uW⟩:=hdy;go_simp
  (try simp only[Act.put,eu,dY,qzs,qzl])
  refine wpAnyH_ready (rs:=[21,26]) (by kernel_rfl) (by simp) ?_;refine AllReadyH.cons (o:={dst:=some 32,op:=Op.call {callee:=Callee.value (Operand.func 152),args:=#[Operand.tmp 11,Operand.tmp 15,Operand.tmp 19,Operand.tmp 25,Operand.tmp 31],argTypes:=#[74,82,82,9,9]},type:=154,pos:=_,after:=_,guard:=none}) rfl (fun K hK=>?_) ?_
  .skip
   go_simp
   (go_at_call 152;(refine(HAP.out w1.drew (Below.seq Ij.out.bJ ((Below.refl w1.heap.size w1).drew))).mono ?_);rintro e7 w7 ⟨rfl,mq⟩)
   have hd7:Below w1.heap.size w1 w7:=Below.seq ((Below.refl w1.heap.size w1).drew) mq
   (try go_wp2_with fail)
   refine hK.out _ _ hd7 (fun hH5=>?_);clear hK K
   (try simp only[Act.put,eu,dY,qzs,qzl])
   refine oK 22 (.tuple #[.agg (ru r1 none 0 0),.int .i64 r2,.int .i64 r3]) ?_ ?_
   .intro wz hSw;have hdy:=jZ.out wz hSw;obtain⟨⟨s1,s2,s3,s4,s5⟩,s6,s7,s8,s9,s10,s11,s12,s13,vo,s15,s16,uN,uW⟩:=hdy;go_simp
   (try simp only[Act.put,eu,dY,qzs,qzl])
   refine oK 23 (.agg (ru r1 none 0 0)) ?_ ?_
   .intro wz hSw;have hdy:=jZ.out wz hSw;obtain⟨⟨s1,s2,s3,s4,s5⟩,s6,s7,s8,s9,s10,s11,s12,s13,vo,s15,s16,uN,uW⟩:=hdy;go_simp
   (try simp only[Act.put,eu,dY,qzs,qzl])
   refine oK 24 (.int .i64 r2) ?_ ?_
   .intro wz hSw;have hdy:=jZ.out wz hSw;obtain⟨⟨s1,s2,s3,s4,s5⟩,s6,s7,s8,s9,s10,s11,s12,s13,vo,s15,s16,uN,uW⟩:=hdy;go_simp
   (try simp only[Act.put,eu,dY,qzs,qzl])
   refine oK 25 (.int .i64 r3) ?_ ?_
   .intro wz hSw;have hdy:=jZ.out wz hSw;obtain⟨⟨s1,s2,s3,s4,s5⟩,s6,s7,s8,s9,s10,s11,s12,s13,vo,s15,s16,uN,uW⟩:=hdy;go_simp
   (try simp only[Act.put,eu,dY,qzs,qzl])
   refine wpAnyH_ready (rs:=[26]) (by kernel_rfl) (by simp) ?_;refine AllReadyH.cons (o:={dst:=some 6,op:=Op.alloc 42,type:=0,pos:=_,after:=_,guard:=none}) rfl (fun K hK=>?_) AllReadyH.nil;go_simp;have OV:(w7.alloc (.cells fZ 42)).heap[w7.heap.size]? = some (.cells fZ 42):=JL;have hd8:Below w1.heap.size w1 (w7.alloc (.cells fZ 42)):=hd7.alloc hd7.size _;refine hK.out _ _ hd8 (fun hH1=>?_);clear hK K
   (try simp only[Act.put,eu,dY,qzs,qzl])
   refine wpAnyH_ready (rs:=[27]) (by kernel_rfl) (by simp) ?_;refine AllReadyH.cons (o:={dst:=none,op:=Op.store 42 (Operand.tmp 6) (Operand.tmp 33),type:=0,pos:=_,after:=_,guard:=none}) rfl (fun K hK=>?_) AllReadyH.nil;refine jS rfl 42 (.tmp 6) (.tmp 33) rfl w7.heap.size (by simp[Act.eval,Act.put]) (ru r1 none 0 0) (by simp[Act.eval,Act.put]) fZ 42 OV rfl (Ov.vD r1 none 0 0) (Ov.lq r1 none 0 0) ?_;have X3:Below w1.heap.size w1 (World.setRow (w7.alloc (.cells fZ 42)) w7.heap.size (ru r1 none 0 0)):=Below.setRow hd8 hd7.size _;refine hK.out _ _ X3 (fun hH8=>?_);clear hK K
   (try simp only[Act.put,eu,dY,qzs,qzl])
   refine wpAnyH_take (i:=28) (oi:={dst:=some 7,op:=Op.assign (Operand.tmp 34),type:=3,pos:=_,after:=_,guard:=none}) (v:=(.int .i64 r2)) rfl (by kernel_rfl) (by kernel_rfl) (by kernel_rfl) (fun _ _ _ h=>h) (Or.inl ⟨by rfl,?_⟩) (by assumption) ?_
   .intro wz hSw;have hdy:=jZ.out wz hSw;obtain⟨⟨s1,s2,s3,s4,s5⟩,s6,s7,s8,s9,s10,s11,s12,s13,vo,s15,s16,uN,uW⟩:=hdy;go_simp
   (try simp only[Act.put,eu,dY,qzs,qzl])
   refine wpAnyH_take (i:=29) (oi:={dst:=some 8,op:=Op.assign (Operand.tmp 35),type:=28,pos:=_,after:=_,guard:=none}) (v:=(.int .i64 r3)) rfl (by kernel_rfl) (by kernel_rfl) (by kernel_rfl) (fun _ _ _ h=>h) (Or.inl ⟨by rfl,?_⟩) (by assumption) ?_
   .intro wz hSw;have hdy:=jZ.out wz hSw;obtain⟨⟨s1,s2,s3,s4,s5⟩,s6,s7,s8,s9,s10,s11,s12,s13,vo,s15,s16,uN,uW⟩:=hdy;go_simp
   (try simp only[Act.put,eu,dY,qzs,qzl])
   refine wpAnyH_done (by kernel_rfl) ?_ _;go_wp2_with fail
   go_meet;exact⟨w7.heap.size,rfl,rfl,rfl,ah X3,ah hd7.size,ah (setRow_heap _ _ _ _ _ _ OV)⟩
  refine AllReadyH.cons (o:={dst:=some 6,op:=Op.alloc 42,type:=0,pos:=_,after:=_,guard:=none}) rfl (fun K hK=>?_) AllReadyH.nil;go_simp;refine hK.out _ _ (((Below.refl w1.heap.size w1).drew).alloc (aY _) _) (fun hH1=>?_);clear hK K
  (try simp only[Act.put,eu,dY,qzs,qzl])
  refine wpAnyH_ready (rs:=[21]) (by kernel_rfl) (by simp) ?_;refine AllReadyH.cons (o:={dst:=some 32,op:=Op.call {callee:=Callee.value (Operand.func 152),args:=#[Operand.tmp 11,Operand.tmp 15,Operand.tmp 19,Operand.tmp 25,Operand.tmp 31],argTypes:=#[74,82,82,9,9]},type:=154,pos:=_,after:=_,guard:=none}) rfl (fun K hK=>?_) AllReadyH.nil;go_simp
  (go_at_call 152;(refine(HAP.out (w1.drew.alloc _) (Below.seq Ij.out.bJ (((Below.refl w1.heap.size w1).drew).alloc (aY _) _))).mono ?_);rintro e7 w7 ⟨rfl,mq⟩)
  have hd7:Below w1.heap.size w1 w7:=Below.seq (((Below.refl w1.heap.size w1).drew).alloc (aY _) _) mq;have OV:w7.heap[w1.heap.size]? = some (.cells fZ 42):=by rw[mq.block _ (by simp)];exact JL
  (try go_wp2_with fail)
  refine hK.out _ _ hd7 (fun hH5=>?_);clear hK K
  (try simp only[Act.put,eu,dY,qzs,qzl])
  refine wpAnyH_take (i:=22) (oi:={dst:=some 10,op:=Op.move (Operand.tmp 32),type:=154,pos:=_,after:=_,guard:=none}) (v:=(.tuple #[.agg (ru r1 none 0 0),.int .i64 r2,.int .i64 r3])) rfl (by kernel_rfl) (by kernel_rfl) (by kernel_rfl) (fun _ _ _ h=>h) (Or.inl ⟨by rfl,?_⟩) (by assumption) ?_
  .intro wz hSw;have hdy:=jZ.out wz hSw;obtain⟨⟨s1,s2,s3,s4,s5⟩,s6,s7,s8,s9,s10,s11,s12,s13,vo,s15,s16,uN,uW⟩:=hdy;go_simp
  (try simp only[Act.put,eu,dY,qzs,qzl])
  refine wpAnyH_take (i:=23) (oi:={dst:=some 33,op:=Op.extract (Operand.tmp 10) 0,type:=42,pos:=_,after:=_,guard:=none}) (v:=(.agg (ru r1 none 0 0))) rfl (by kernel_rfl) (by kernel_rfl) (by kernel_rfl) (fun _ _ _ h=>h) (Or.inl ⟨by rfl,?_⟩) (by assumption) ?_
  .intro wz hSw;have hdy:=jZ.out wz hSw;obtain⟨⟨s1,s2,s3,s4,s5⟩,s6,s7,s8,s9,s10,s11,s12,s13,vo,s15,s16,uN,uW⟩:=hdy;go_simp
  (try simp only[Act.put,eu,dY,qzs,qzl])
  refine wpAnyH_take (i:=24) (oi:={dst:=some 34,op:=Op.extract (Operand.tmp 10) 1,type:=3,pos:=_,after:=_,guard:=none}) (v:=(.int .i64 r2)) rfl (by kernel_rfl) (by kernel_rfl) (by kernel_rfl) (fun _ _ _ h=>h) (Or.inl ⟨by rfl,?_⟩) (by assumption) ?_
  .intro wz hSw;have hdy:=jZ.out wz hSw;obtain⟨⟨s1,s2,s3,s4,s5⟩,s6,s7,s8,s9,s10,s11,s12,s13,vo,s15,s16,uN,uW⟩:=hdy;go_simp
  (try simp only[Act.put,eu,dY,qzs,qzl])
  refine wpAnyH_take (i:=25) (oi:={dst:=some 35,op:=Op.extract (Operand.tmp 10) 2,type:=28,pos:=_,after:=_,guard:=none}) (v:=(.int .i64 r3)) rfl (by kernel_rfl) (by kernel_rfl) (by kernel_rfl) (fun _ _ _ h=>h) (Or.inl ⟨by rfl,?_⟩) (by assumption) ?_
  .intro wz hSw;have hdy:=jZ.out wz hSw;obtain⟨⟨s1,s2,s3,s4,s5⟩,s6,s7,s8,s9,s10,s11,s12,s13,vo,s15,s16,uN,uW⟩:=hdy;go_simp
  (try simp only[Act.put,eu,dY,qzs,qzl])
  refine wpAnyH_ready (rs:=[27]) (by kernel_rfl) (by simp) ?_;refine AllReadyH.cons (o:={dst:=none,op:=Op.store 42 (Operand.tmp 6) (Operand.tmp 33),type:=0,pos:=_,after:=_,guard:=none}) rfl (fun K hK=>?_) AllReadyH.nil;refine jS rfl 42 (.tmp 6) (.tmp 33) rfl w1.heap.size (by simp[Act.eval,Act.put]) (ru r1 none 0 0) (by simp[Act.eval,Act.put]) fZ 42 OV rfl (Ov.vD r1 none 0 0) (Ov.lq r1 none 0 0) ?_;have X3:Below w1.heap.size w1 (World.setRow w7 w1.heap.size (ru r1 none 0 0)):=Below.setRow hd7 (aY _) _;refine hK.out _ _ X3 (fun hH8=>?_);clear hK K
  (try simp only[Act.put,eu,dY,qzs,qzl])
  refine wpAnyH_take (i:=28) (oi:={dst:=some 7,op:=Op.assign (Operand.tmp 34),type:=3,pos:=_,after:=_,guard:=none}) (v:=(.int .i64 r2)) rfl (by kernel_rfl) (by kernel_rfl) (by kernel_rfl) (fun _ _ _ h=>h) (Or.inl ⟨by rfl,?_⟩) (by assumption) ?_
  .intro wz hSw;have hdy:=jZ.out wz hSw;obtain⟨⟨s1,s2,s3,s4,s5⟩,s6,s7,s8,s9,s10,s11,s12,s13,vo,s15,s16,uN,uW⟩:=hdy;go_simp
  (try simp only[Act.put,eu,dY,qzs,qzl])
  refine wpAnyH_take (i:=29) (oi:={dst:=some 8,op:=Op.assign (Operand.tmp 35),type:=28,pos:=_,after:=_,guard:=none}) (v:=(.int .i64 r3)) rfl (by kernel_rfl) (by kernel_rfl) (by kernel_rfl) (fun _ _ _ h=>h) (Or.inl ⟨by rfl,?_⟩) (by assumption) ?_
  .intro wz hSw;have hdy:=jZ.out wz hSw;obtain⟨⟨s1,s2,s3,s4,s5⟩,s6,s7,s8,s9,s10,s11,s12,s13,vo,s15,s16,uN,uW⟩:=hdy;go_simp
  (try simp only[Act.put,eu,dY,qzs,qzl])
  refine wpAnyH_done (by kernel_rfl) ?_ _;go_wp2_with fail
  go_meet;exact⟨w1.heap.size,rfl,rfl,rfl,ah X3,ah (aY _),ah (setRow_heap _ _ _ _ _ _ OV)⟩
 case rest =>
  obtain⟨ge,rfl,rfl,rfl,Xr,agP,HGE⟩:=hcut;have UO:=ah (ML.out.below Xr.out);have HRX:=ah (aU Ij.out.rr Xr.out);have ahP:w.heap.size+1<ge:=by have:=Ij.out.lt;have:=agP.out;omega
  have hbw:Below w.heap.size w wc:=Below.seq Ij.out.bJ Xr.out;have HBW:=ah hbw;clear HAP jZ HD Ij ML Xr ahc hbw;have hent:Plain.entry C.data (o+512) h s=(if r3≠0 then .error r3 else if Plain.there C.data (o+512) r2=false then .error 70 else .ok ({r1 with data:=if r1.kind=1 then eH C.data (o+512) (o+512+r2.toNat) else[]},r2)):=by
   unfold Plain.entry;simp only[HRR.out]
  have hsz:=MH h s.glob s.loc s.ln s.lr hs0 hs1;rw[HRR.out] at hsz;simp only at hsz;generalize hR:Plain.entry C.data (o+512) h s=R at hent;have HR:=ah hR;clear hR;by_cases h3:r3=0
  .subst h3;rw[if_neg (by simp)] at hent;have ZP:=ah (sN C hC A o s r2 wc UO.out hsz.1 (by omega) ho)
   cases hth:Plain.there C.data (o+512) r2 with
   | false =>
    rw[if_pos hth] at hent;subst hent;have Mj:Hid (Calls qp0 150 #[.pointer (some ⟨C.wb,0,none⟩),.int .i64 r2] wc fun e w'=>e=.panicked (mK 70)/\Wk C A o s w'/\Below wc.heap.size wc w'):=ah (ZP.out.mono fun e w' h=>⟨by
     rcases h.1 with⟨h2,_⟩|⟨_,h2⟩
     .rw[hth] at h2;cases h2
     .exact h2,h.2⟩)
    clear ZP hth hsz;go_wp2_with (go_at_call 150;refine(Mj.out).mono ?_;rintro e w3 ⟨rfl,h3,h4⟩;have HW3:=ah h3;have HB3:=ah (Below.seq HBW.out h4);clear h3 h4)
    refine⟨rfl,?_⟩;unfold Tz;rw[HR.out];exact⟨⟨rfl,HW3.out⟩,gL.of HB3.out⟩
   | true =>
    rw[if_neg (by rw[hth];decide)] at hent;subst hent;obtain⟨N,rfl⟩:=Xq hsz.1;have hle:=Plain.xU (d:=C.data) (o:=o+512) (by rw[hC.dat.len];exact ho) hth;rw[hC.dat.len] at hle;have hle:o+512+N<=C.dn:=hle;have Mj:Hid (Calls qp0 150 #[.pointer (some ⟨C.wb,0,none⟩),.int .i64 (N:Int)] wc fun e w'=>∃ a',e=.returned (.slice a' N (C.dc-(o+512)))/\Bs w' a' N (C.dc-(o+512)) (eH C.data (o+512) (o+512+N))/\Wk C A o s w'/\Below wc.heap.size wc w'):=ah (ZP.out.mono fun e w' h=>by
     rcases h.1 with⟨_,h2⟩|⟨h2,_⟩
     .obtain⟨a',e1,e2⟩:=xk (hC.bs h.2.1.bJ) (o+512) (o+512+N) (by omega) hle;have e3:o+512+N-(o+512)=N:=by omega
      rw[e3] at e1 e2;exact⟨a',by rw[h2];exact congrArg _ e1,e2,h.2⟩
     .rw[hth] at h2;cases h2)
    have hNd:N<=140737488351232:=by have:=hC.dn;omega
    rw[show((N:Int)).toNat=N from by omega] at HR;generalize eH C.data (o+512) (o+512+N)=D at *
    clear ZP hth hsz hle;have ahV:=ah (agS);have hc0:wc.cell? ⟨ge,0,none⟩=some (.int .i64 r1.kind):=by rw[aG HGE.out];rfl
    by_cases hk1:r1.kind=1
    .rw[if_pos hk1] at HR;have hkb:(r1.kind==1)=true:=by rw[hk1];rfl
     clear hk1;go_upto_region 5 with(go_at_call 150;refine(Mj.out).mono ?_;rintro e w3 ⟨a',rfl,hbs,h3,h4⟩;have R5:=ah hbs;have HW3:=ah h3;have HBC:=ah h4;clear hbs h3 h4)
     have WM:=ah (aU HGE.out HBC.out);have agV:=ah (aU HRX.out HBC.out);have HB3:=ah (Below.seq HBW.out HBC.out);have ahO:ge<w3.heap.size:=(fT.1 WM.out).1;have aeQ:w3.cell? ⟨ge,0,none⟩=some (.int .i64 r1.kind):=by rw[aG WM.out];rfl
     have ho0:=World.ownsRow_lit (base:=w3.heap.size) (e:=5) (size:=1) w3 #[] 0 (aY _) (by decide) rfl;have HO0:=ah ho0;clear hc0 HBC Mj ho0;go_upto_region 7 with(at_builtin;refine nJ rfl _ _ 22 rfl w3.heap.size 5 _ 1 1 underlying22 V6 rfl (by decide) (by decide) rfl HO0.out rfl ((Keeps.alloc w3 _).bs R5.out) (kY D) (by omega) (by simp) ?_;intro a4 c4 w4 Rs hg4;have HO4:=ah Rs;have QF:=ah (below_app ((Below.refl w3.heap.size w3).alloc (aY _) (.cells #[] 5)) HO0.out hg4 (aY _) (by simp));have hx1:=aG (aU WM.out QF.out) 10;have hx2:=aS (aU WM.out QF.out) 10;clear Rs hg4)
     have UM:=ah (HW3.out.below QF.out);have acQ:=ah (aU WM.out QF.out);rw[lU] at HO4;have hgr:=aD w4 ge 10 (.slice a4 N c4);have qZ:=ah (UM.out.other acQ.out (by decide) (by decide) (by omega) hgr);have Ul:Hid ((w4.setCell ⟨ge,10,none⟩ (.slice a4 N c4)).heap[ge]? = some (.cells (sS ({r1 with data:=D},(a4,N,c4))) 42)):=ah (aO acQ.out (j:=10) (.slice a4 N c4));have EB:=ah (aZ (aU agV.out QF.out) hgr (fun e=>by have:=pQ e;omega));have YT:Hid (iw (w4.setCell ⟨ge,10,none⟩ (.slice a4 N c4)) C.w0.heap.size ({r1 with data:=D},(a4,N,c4))):=ah (aX (World.ownsRow.mono (by simpa using HO4.out) HW3.out.bJ.size) hgr (Or.inr (aN HO4.out acQ.out (by decide))));have HB5:Hid (gL C w (w4.setCell ⟨ge,10,none⟩ (.slice a4 N c4))):=ah ((gL.of (Below.seq HB3.out QF.out)).grow hgr (.inr (.inr (by omega))));clear hx1 hx2 hgr HO0;generalize w4.setCell ⟨ge,10,none⟩ (.slice a4 N c4)=w5 at *
     have RN:w5.cell? ⟨C.wb,9,none⟩=some (.slice A.la A.ln A.lc):=qZ.out.cell 9;have hf9:=aS qZ.out.row 9;have MP:=aO qZ.out.row (j:=9) (.slice none 0 0);have TA:(w5.setCell ⟨C.wb,9,none⟩ (.slice none 0 0)).cell? ⟨C.wb,10,none⟩=some (.int .i64 s.zk):=aG MP 10;have RJ:=aS MP 10;go_upto_region 8 with fail
     have UJ:=ah (qZ.out.O9 hC 0 (World.ownsRow_nil _ _ _ _:w5.ownsRow C.w0.heap.size 160 2 (.slice none 0 0) 0 (([]:List Pr).flatMap aR)) JQ.nil (U4 _) (by have:=hC.lim;unfold Plain.eT at this;have:=of_decide_eq_true this;omega));have ET:w5.grownBy ((w5.setCell ⟨C.wb,9,none⟩ (.slice none 0 0)).setCell ⟨C.wb,10,none⟩ (.int .i64 0)) (some C.wb):=(aD _ _ _ _).trans (aD _ _ _ _);have hne1:ge≠C.wb:=fun e=>by
      have h1:=Ul.out;rw[e,qZ.out.row] at h1;simp only[Ba,Obj.cells.injEq] at h1;exact absurd h1.2.1 (by decide)
     have hne2:w.heap.size+1≠C.wb:=fun e=>by
      have h1:=EB.out;rw[e,qZ.out.row] at h1;simp only[Ba,Obj.cells.injEq] at h1;exact absurd h1.2.1 (by decide)
     have WI:=ah (aZ Ul.out ET (fun e=>hne1 (pQ e)));have WV:=ah (aZ EB.out ET (fun e=>hne2 (pQ e)));have XC:Hid (iw _ C.w0.heap.size (({r1 with data:=D}:En),(a4,N,c4))):=ah (aX YT.out ET (Or.inr (aN YT.out qZ.out.row (by decide))));have HB6:=ah (HB5.out.grow ET (.inl rfl));generalize (w5.setCell ⟨C.wb,9,none⟩ (.slice none 0 0)).setCell ⟨C.wb,10,none⟩ (.int .i64 0)=w6 at *
     clear RN hf9 MP TA RJ ET;have Yf:w6.cell? ⟨C.wb,11,none⟩=some (.map (some C.mb)):=UJ.out.cell 11;go_upto_region 9 with(refine qU rfl _ 83 rfl 213 underlying83 rfl UJ.out.long ?_;intro w7 hm7 Lp;have JK:=ah (UJ.out.clear hC rfl rfl hm7 Lp);have ad5:=ah (aZ WI.out Lp (fun e=>Jz UJ.out.long WI.out (pQ e)));have Ey:=ah (aZ WV.out Lp (fun e=>Jz UJ.out.long WV.out (pQ e)));have Xj:Hid (iw w7 C.w0.heap.size (({r1 with data:=D}:En),(a4,N,c4))):=ah (aX XC.out Lp (Or.inr (fun e=>(Gr.Mp.yU UJ.out.long XC.out) e.symm)));have MX:=ah (HB6.out.grow Lp (.inr (.inl rfl)));clear hm7 Lp)
     have HRG:=ah (Ov.tV ad5.out);have qh:=ah (Ov.vD ({r1 with data:=D}:En) (a4,N,c4).1 (a4,N,c4).2.1 (a4,N,c4).2.2);have AP:=ah (Ov.lq ({r1 with data:=D}:En) (a4,N,c4).1 (a4,N,c4).2.1 (a4,N,c4).2.2);clear Yf;go_wp2_with (first|(refine cK rfl 42 _ rfl ge 0 rfl (sS (({r1 with data:=D}:En),(a4,N,c4))) _ HRG.out underlying42 rfl (by rw[U5];exact qh.out) ?_)|(refine wpList_store_row rfl 42 _ _ rfl (w.heap.size+1) rfl (sS (({r1 with data:=D}:En),(a4,N,c4))) rfl fZ 42 Ey.out rfl qh.out AP.out ?_))
     have acL:=Ip Ey.out (sS (({r1 with data:=D}:En),(a4,N,c4)));have Oe:=qD Ey.out (sS (({r1 with data:=D}:En),(a4,N,c4)));refine bodyPost_ret (results_cell_tmp rfl _ _ (w.heap.size+1) 42 (sS (({r1 with data:=D}:En),(a4,N,c4))) (0,0) _ _ rfl rfl acL underlying42 rfl qh.out) rfl ?_;unfold Tz;rw[HR.out];refine⟨⟨_,(a4,N,c4),rfl,JK.out.other Ey.out (by decide) (by decide) (by omega) Oe,?_⟩,?_⟩
     .exact aX Xj.out Oe (Or.inr (aN Xj.out Ey.out (by decide)))
     .exact MX.out.grow Oe (.inr (.inr (by omega)))
    .rw[if_neg hk1] at HR;have hkb:(r1.kind==1)=false:=by rw[beq_eq_false_iff_ne];exact hk1
     clear hk1;go_upto_region 5 with(go_at_call 150;refine(Mj.out).mono ?_;rintro e w5 ⟨a',rfl,hbs,h3,h4⟩;have qZ:=ah h3;have HBC:=ah h4;clear hbs h3 h4)
     have Ul:Hid (w5.heap[ge]? = some (.cells (sS ({r1 with data:=[]},(none,0,0))) 42)):=ah (aU HGE.out HBC.out);have EB:=ah (aU HRX.out HBC.out);have HB5:Hid (gL C w w5):=ah (gL.of (Below.seq HBW.out HBC.out));have YT:Hid (iw w5 C.w0.heap.size ({r1 with data:=[]},(none,0,0))):=ah (World.ownsRow_nil _ _ _ _);have aeQ:w5.cell? ⟨ge,0,none⟩=some (.int .i64 r1.kind):=by rw[aG Ul.out];rfl
     clear hc0 HBC Mj;go_upto_region 7 with fail
     clear aeQ;have RN:w5.cell? ⟨C.wb,9,none⟩=some (.slice A.la A.ln A.lc):=qZ.out.cell 9;have hf9:=aS qZ.out.row 9;have MP:=aO qZ.out.row (j:=9) (.slice none 0 0);have TA:(w5.setCell ⟨C.wb,9,none⟩ (.slice none 0 0)).cell? ⟨C.wb,10,none⟩=some (.int .i64 s.zk):=aG MP 10;have RJ:=aS MP 10;go_upto_region 8 with fail
     have UJ:=ah (qZ.out.O9 hC 0 (World.ownsRow_nil _ _ _ _:w5.ownsRow C.w0.heap.size 160 2 (.slice none 0 0) 0 (([]:List Pr).flatMap aR)) JQ.nil (U4 _) (by have:=hC.lim;unfold Plain.eT at this;have:=of_decide_eq_true this;omega));have ET:w5.grownBy ((w5.setCell ⟨C.wb,9,none⟩ (.slice none 0 0)).setCell ⟨C.wb,10,none⟩ (.int .i64 0)) (some C.wb):=(aD _ _ _ _).trans (aD _ _ _ _);have hne1:ge≠C.wb:=fun e=>by
      have h1:=Ul.out;rw[e,qZ.out.row] at h1;simp only[Ba,Obj.cells.injEq] at h1;exact absurd h1.2.1 (by decide)
     have hne2:w.heap.size+1≠C.wb:=fun e=>by
      have h1:=EB.out;rw[e,qZ.out.row] at h1;simp only[Ba,Obj.cells.injEq] at h1;exact absurd h1.2.1 (by decide)
     have WI:=ah (aZ Ul.out ET (fun e=>hne1 (pQ e)));have WV:=ah (aZ EB.out ET (fun e=>hne2 (pQ e)));have XC:Hid (iw _ C.w0.heap.size (({r1 with data:=[]}:En),((none,0,0):Option Addr×Nat×Nat))):=ah (aX YT.out ET (Or.inr (aN YT.out qZ.out.row (by decide))));have HB6:=ah (HB5.out.grow ET (.inl rfl));generalize (w5.setCell ⟨C.wb,9,none⟩ (.slice none 0 0)).setCell ⟨C.wb,10,none⟩ (.int .i64 0)=w6 at *
     clear RN hf9 MP TA RJ ET;have Yf:w6.cell? ⟨C.wb,11,none⟩=some (.map (some C.mb)):=UJ.out.cell 11;go_upto_region 9 with(refine qU rfl _ 83 rfl 213 underlying83 rfl UJ.out.long ?_;intro w7 hm7 Lp;have JK:=ah (UJ.out.clear hC rfl rfl hm7 Lp);have ad5:=ah (aZ WI.out Lp (fun e=>Jz UJ.out.long WI.out (pQ e)));have Ey:=ah (aZ WV.out Lp (fun e=>Jz UJ.out.long WV.out (pQ e)));have Xj:Hid (iw w7 C.w0.heap.size (({r1 with data:=[]}:En),((none,0,0):Option Addr×Nat×Nat))):=ah (aX XC.out Lp (Or.inr (fun e=>(Gr.Mp.yU UJ.out.long XC.out) e.symm)));have MX:=ah (HB6.out.grow Lp (.inr (.inl rfl)));clear hm7 Lp)
     have HRG:=ah (Ov.tV ad5.out);have qh:=ah (Ov.vD ({r1 with data:=[]}:En) ((none,0,0):Option Addr×Nat×Nat).1 ((none,0,0):Option Addr×Nat×Nat).2.1 ((none,0,0):Option Addr×Nat×Nat).2.2);have AP:=ah (Ov.lq ({r1 with data:=[]}:En) ((none,0,0):Option Addr×Nat×Nat).1 ((none,0,0):Option Addr×Nat×Nat).2.1 ((none,0,0):Option Addr×Nat×Nat).2.2);clear Yf;go_wp2_with (first|(refine cK rfl 42 _ rfl ge 0 rfl (sS (({r1 with data:=[]}:En),((none,0,0):Option Addr×Nat×Nat))) _ HRG.out underlying42 rfl (by rw[U5];exact qh.out) ?_)|(refine wpList_store_row rfl 42 _ _ rfl (w.heap.size+1) rfl (sS (({r1 with data:=[]}:En),((none,0,0):Option Addr×Nat×Nat))) rfl fZ 42 Ey.out rfl qh.out AP.out ?_))
     have acL:=Ip Ey.out (sS (({r1 with data:=[]}:En),((none,0,0):Option Addr×Nat×Nat)));have Oe:=qD Ey.out (sS (({r1 with data:=[]}:En),((none,0,0):Option Addr×Nat×Nat)));refine bodyPost_ret (results_cell_tmp rfl _ _ (w.heap.size+1) 42 (sS (({r1 with data:=[]}:En),((none,0,0):Option Addr×Nat×Nat))) (0,0) _ _ rfl rfl acL underlying42 rfl qh.out) rfl ?_;unfold Tz;rw[HR.out];refine⟨⟨_,((none,0,0):Option Addr×Nat×Nat),rfl,JK.out.other Ey.out (by decide) (by decide) (by omega) Oe,?_⟩,?_⟩
     .exact aX Xj.out Oe (Or.inr (aN Xj.out Ey.out (by decide)))
     .exact MX.out.grow Oe (.inr (.inr (by omega)))
  .rw[if_pos h3] at hent;subst hent;have h3b:(r3 != 0)=true:=by rw[bne_iff_ne];exact h3
   clear h3;go_wp2_with (go_at_call 112;refine(dF _ _ _).mono ?_;rintro e w5 ⟨rfl,rfl⟩)
   refine⟨rfl,?_⟩;unfold Tz;rw[HR.out];exact⟨⟨rfl,UO.out⟩,gL.of HBW.out⟩
end St
end
section
open Go.Maps (Keyed)
namespace St
open Gr (aZ aD aN aO aX aG aS aU)
def AL(C:Cn)(A:Ad)(o:Nat)(h:Hd)(s:bW)(w:World)(e:Ending)(w':World):Prop :=(match Plain.extend C.data C.lim (o+512) h s with
  | .error c=>e=.panicked (mK c)/\Wk C A o s w'
  | .ok s'=>e=.returned (.tuple #[])/\∃ A',Wk C A' o s' w')/\gL C w w'
theorem ZU(l:List UInt8)(p:Pr)(n:Nat)(h:Plain.one l=some (p,n)):p.1.length<=l.length/\p.2.length<=l.length:=by
 unfold Plain.one at h;split at h
 .unfold nY at h;split at h
  .generalize hu:((l.take (Plain.decimal (bn l)).1.toNat).drop ((bn l).length+1)).dropLast=u at h;have hul:u.length<=l.length:=by rw[<-hu,List.length_dropLast,zW,zQ];omega
   unfold tK at h;split at h
   .simp only[MK,Ba,MV] at h;rw[<-h.1];have:=(List.takeWhile_sublist (fun x:UInt8=>x != 61) (l:=u)).length_le;simp only[zW];omega
   .cases h
  .cases h
 .cases h
theorem SV:∀ (f:Nat)(l:List UInt8)(ps:List Pr),rM f l=some ps->ps.length<=l.length/\∀ p∈ps,p.1.length<=l.length/\p.2.length<=l.length:=by
 intro f
 induction f with
 | zero =>
  intro l ps h;unfold rM at h;split at h
  .cases h;exact⟨by simp,fun p hp=>by cases hp⟩
  .cases h
 | succ f ih =>
  intro l ps h;unfold rM at h;split at h
  .cases h;exact⟨by simp,fun p hp=>by cases hp⟩
  .split at h
   .cases h
   .rename_i p n ho
    have hb:=tu l p n ho;have hl:=ZU l p n ho
    cases hr:rM f (l.drop n) with
    | none=>rw[hr] at h;cases h
    | some qs =>
     rw[hr] at h;simp only[MK,Ba] at h;subst h;obtain⟨h1,h2⟩:=ih _ _ hr;rw[zW] at h1 h2;refine⟨by rw[oH];omega,fun q hq=>?_⟩;rcases rD.1 hq with rfl|hq
     .exact hl
     .have:=h2 q hq;omega
theorem Xa(l:List UInt8)(ps:List Pr)(h:Plain.read l=some ps)(hl:l.length<=1048576):JQ ps:=by
 obtain⟨h1,h2⟩:=SV _ l ps h;exact⟨by omega,fun p hp=>by have:=h2 p hp;omega⟩
theorem K8{d:List UInt8}{lim:kG}{o:Nat}{n:Int}{ps:List Pr}(h:Plain.recs d lim o n=.ok ps):n<=lim.iP:=by
 unfold Plain.recs at h;split at h
 .cases h
 .omega
theorem G7{d:List UInt8}{lim:kG}{o:Nat}{n:Int}{ps:List Pr}(h:Plain.recs d lim o n=.ok ps)(hl:lim.iP<=1048576):JQ ps:=by
 have hp:=K8 h;unfold Plain.recs at h;split at h
 .cases h
 .split at h
  .cases h
  .split at h
   .cases h
   .split at h
    .cases h
    .rename_i hr
     cases h
     refine Xa _ _ hr ?_;unfold eH;rw[zW,zQ];omega
theorem EJ(s:bW)(ty:UInt8)(h:ty=76\/ty=75):gY s ty=if Plain.oJ s ty=[] then none else some (lgV (Plain.oJ s ty)):=by
 unfold gY Plain.oJ;rcases h with rfl|rfl
 .simp
 .simp
theorem look_ok{C:Cn}{A:Ad}{o:Nat}{s:bW}{wr:World}(h:Wk C A o s wr)(ty:UInt8)(ht:ty=76\/ty=75):(Instr.lookup 83 (.map (some C.mb)) (.int .u8 (ty.toNat:Int)) true).run qp0 wr=.ok (.tuple #[.agg #[.string ⟨(Plain.oJ s ty).toArray⟩],.bool (!(Plain.oJ s ty).isEmpty)]) wr:=by
 obtain⟨D,h1,h2,h3⟩:=h.long;obtain⟨v,ps,hrun,hv⟩:=h1.look_ok lawB (t:=83) underlying83 (Ec _) (zd:=.held (.agg #[.string ⟨#[]⟩])) (zp:=[]) rfl (Qm ty);obtain rfl:=Gr.Mp.value h3 ty hv;rw[(h3 ty).1,EJ s ty ht] at hrun;rw[hrun]
 cases Plain.oJ s ty <;> simp[lgV]
theorem Wk.dD{C:Cn}{A:Ad}{o:Nat}{s:bW}{w w':World}(hC:C.Ok)(h:Wk C A o s w)(ty:UInt8)(ht:ty=76\/ty=75)(t:List UInt8)(h0:t≠[])(hl:(t.length:Int)<=C.lim.name)(hlo:Plain.oJ s ty=[])(hm:Gr.Mp zG qp0 5 w' C.mb (if (gY s ty).isSome then JM s else JM s+1) (Gr.upd (gY s) ty (lgV t)))(hg:w.grownBy w' (some C.mb)):Wk C A o (Plain.dD s ty t) w':=by
 have hb:Below C.w0.heap.size w w':=Gr.nX hg hC.mb h.bJ.size;have hown:∀ {a:Option Addr}{n c:Nat}{l:List Pr},w.ownsRow C.w0.heap.size 160 2 (.slice a n c) n (l.flatMap aR)->w'.ownsRow C.w0.heap.size 160 2 (.slice a n c) n (l.flatMap aR):=fun {a n c l} ho=>aX ho hg (Or.inr (fun e=>(Gr.Mp.yU h.long ho) e.symm))
 have hrow:=aZ h.row hg (fun e=>hC.ne (pQ e));have hsz:(if (gY s ty).isSome then JM s else JM s+1)=JM (Plain.dD s ty t):=by
  rw[EJ s ty ht,hlo];unfold JM Plain.dD;unfold Plain.oJ at hlo;rcases ht with rfl|rfl
  .simp only[if_true] at hlo ⊢;simp[hlo,h0];omega
  .rw[if_neg (by decide)] at hlo ⊢;simp[hlo,h0]
 have hf:Gr.upd (gY s) ty (lgV t)=gY (Plain.dD s ty t):=by
  funext x;unfold Gr.upd gY Plain.dD;rcases ht with rfl|rfl
  .by_cases hx:x=76
   .subst hx;simp[h0]
   .simp[hx]
  .by_cases hx:x=75
   .subst hx;simp[h0]
   .simp[hx]
 rw[hsz,hf] at hm;have e1:(Plain.dD s ty t).glob=s.glob:=by unfold Plain.dD;split <;> rfl
 have e2:(Plain.dD s ty t).loc=s.loc:=by unfold Plain.dD;split <;> rfl
 have e3:(Plain.dD s ty t).zk=s.zk:=by unfold Plain.dD;split <;> rfl
 have e4:(Plain.dD s ty t).held=s.held:=by unfold Plain.dD;split <;> rfl
 refine⟨h.bJ.trans hb,?_,by rw[e1];exact hown h.glob,by rw[e2];exact hown h.loc,hm,by rw[e1];exact h.gb,by rw[e2];exact h.lb,?_,h.Zv⟩
 .have:VH C A o (Plain.dD s ty t) 0 0=VH C A o s 0 0:=by unfold VH;rw[e3,e4]
  rw[this];exact hrow
 .obtain⟨f1,f2,f3,f4,f5,f6,f7⟩:=h.fit;refine⟨by rw[e1];exact f1,by rw[e3];exact f2,by rw[e3];exact f3,?_,?_,by rw[e4];exact f6,by rw[e4];exact f7⟩
  .unfold Plain.dD;split
   .exact hl
   .exact f4
  .unfold Plain.dD;split
   .exact f5
   .exact hl
def vH(s:bW)(left:Lit->Bool):Int:=(if left (zG 76)=true then 0 else(s.ln.length:Int))+(if left (zG 75)=true then 0 else(s.lr.length:Int))
theorem aaE(s:bW)(h1:s.ln.length<=4096)(h2:s.lr.length<=4096)(left:Lit->Bool):0<=vH s left/\vH s left<=8192:=by
 unfold vH;split <;> split <;> omega
theorem TF(s:bW)(D:DataW Value)(h:Gr.Reads zG D (gY s)):vH s (Maps.has D)=0:=by
 unfold vH;rw[(h 76).1,(h 75).1];unfold gY
 cases s.ln <;> cases s.lr <;> simp
theorem ZF:(zG 76).sameKey (zG 75)=false/\(zG 75).sameKey (zG 76)=false/\(zG 76).sameKey (zG 76)=true/\(zG 75).sameKey (zG 75)=true:=by decide
theorem round_facts(s:bW)(D:DataW Value)(h:Gr.Reads zG D (gY s))(x:Int)(c:Value)(kl:Lit)(y:DataW Value)(ps:List MemPlace)(hkey:keyOf qp0 5 (.int .u8 x)=some kl)(hh:Maps.has D kl=true)(hv:Gr.held c=some (y,ps))(hat:∀ zd,D.atKey kl zd=y)(left:Lit->Bool)(hl:left kl=true):∃ txt:List UInt8,c=.agg #[.string ⟨txt.toArray⟩]/\vH s (fun z=>left z&&!z.sameKey kl)=vH s left+txt.length:=by
 obtain⟨x',ex,rfl,hw⟩:=Maps.keyOf_int_inv underlying5 hkey
 cases ex
 have hx:0<=x/\x<=255:=by
  simp[Lit.wf,IntKind.min,IntKind.max,IntKind.signed,IntKind.bits] at hw;omega
 obtain⟨b,rfl⟩:∃ b:UInt8,x=(b.toNat:Int):=⟨UInt8.ofNat x.toNat,by simp;omega⟩
 change Maps.has D (zG b)=true at hh
 change ∀ zd,D.atKey (zG b) zd=y at hat
 change left (zG b)=true at hl
 change ∃ txt:List UInt8,c=.agg #[.string ⟨txt.toArray⟩]/\vH s (fun z=>left z&&!z.sameKey (zG b))=vH s left+txt.length
 simp only[Gr.held,Ba,MV] at hv;obtain⟨rfl,rfl⟩:=hv;rw[(h b).1] at hh
 cases hf:gY s b with
 | none=>rw[hf] at hh;cases hh
 | some v =>
  have h2:=(h b).2 v hf (.held c);rw[hat] at h2;have hcv:c=v:=DataW.held.inj h2;subst hcv;unfold gY at hf;obtain⟨k1,k2,k3,k4⟩:=ZF;by_cases e1:b=76
  .subst e1;rw[if_pos rfl] at hf;split at hf
   .cases hf
   .cases hf
    refine⟨s.ln,rfl,?_⟩;unfold vH;simp only[hl,k2,k3,qb1,Bool.and_false,qb9,Bool.and_true,if_true,jI,if_false];omega
  .rw[if_neg e1] at hf;by_cases e2:b=75
   .subst e2;rw[if_pos rfl] at hf;split at hf
    .cases hf
    .cases hf
     refine⟨s.lr,rfl,?_⟩;unfold vH;simp only[hl,k1,k4,qb1,Bool.and_false,qb9,Bool.and_true,if_true,jI,if_false];omega
   .rw[if_neg e2] at hf;cases hf
theorem Wk.setH{C:Cn}{A:Ad}{o:Nat}{s:bW}{w:World}(hC:C.Ok)(h:Wk C A o s w):Wk C A o (Plain.GA s) (w.setCell ⟨C.wb,7,none⟩ (.int .i64 (max s.held (Plain.qN s)))):=by
 obtain⟨h1,h2,h3,h4,_⟩:=h.set hC 7 (.int .i64 (max s.held (Plain.qN s)))
 obtain⟨f1,f2,f3,f4,f5,f6,f7⟩:=h.fit;exact⟨h1,h2,h3 h.glob,h3 h.loc,h4,h.gb,h.lb,Plain.nQ f6 f7 f1 f2 f3 f4 f5,h.Zv⟩
theorem Ns{w w':World}(h:w.grownBy w' none):Below w.heap.size w w':=⟨h.os,h.tape,h.output,h.size,fun i hi=>h.block i hi (by simp)⟩
theorem Nv(C:Cn)(hC:C.Ok)(A:Ad)(o:Nat)(h:Hd)(s:bW)(w:World)(hw:Wk C A o s w)(ho:o+512<=C.dn)(hs0:0<=h.size)(hs1:h.size<=9223372036854775807)(hty:Plain.lH h.ty=true):Calls qp0 115 #[.pointer (some ⟨C.wb,0,none⟩),.agg (dQ h)] w (AL C A o h s w):=by
 have HO:=ah (jP h);have HI:=ah (mo h);have HW:=ah hw;have hbase:=hw.bJ.size;have hb1:Below w.heap.size w (w.alloc (.cells (dQ h) 74)):=(Below.refl _ _).alloc (aY _) _;have HB1:=ah hb1;have hr1:(w.alloc (.cells (dQ h) 74)).heap[w.heap.size]? = some (.cells (dQ h) 74):=JL;have HR1:=ah hr1;clear hb1 hr1 hw;go_enter func115,ntmps115;go_upto_region 1 with fail
 generalize w.alloc (.cells (dQ h) 74)=w1 at *
 have h7:w1.cell? ⟨w.heap.size,7,none⟩=some (.int .u8 (h.ty.toNat:Int)):=by rw[aG HR1.out];rfl
 have h5:w1.cell? ⟨w.heap.size,5,none⟩=some (.int .i64 h.size):=by rw[aG HR1.out];rfl
 have H5:=ah h5;have HW1:=ah (HW.out.below HB1.out);go_upto_block 0 with fail;clear h5;go_cut [4,5,6] from 12 to 95 (fun _ _ _ wx=>∃ (A1:Ad)(s1:bW),Hid (Plain.extend C.data C.lim (o+512) h s=.ok (Plain.GA s1))/\Hid (s1.held=s.held)/\Hid (Wk C A1 o s1 wx)/\Hid (gL C w wx))
 case first =>
  have hcs:h.ty=120\/(¬ h.ty=120/\h.ty=103)\/(¬ h.ty=120/\¬ h.ty=103/\(h.ty=76\/h.ty=75)):=by
   unfold Plain.lH at hty;have:=of_decide_eq_true hty;by_cases e1:h.ty=120
   .exact .inl e1
   .by_cases e2:h.ty=103
    .exact .inr (.inl ⟨e1,e2⟩)
    .refine .inr (.inr ⟨e1,e2,?_⟩);rcases this with e|e|e|e
     .exact absurd e e1
     .exact absurd e e2
     .exact .inl e
     .exact .inr e
  rcases hcs with e1|⟨e1,e2⟩|⟨e1,e2,e3⟩
  .
   have hx:Plain.extend C.data C.lim (o+512) h s=Plain.Rt C.data C.lim (o+512) h s:=by unfold Plain.extend;rw[if_pos e1]
   have hb:(((h.ty.toNat:Nat):Int)==120)=true:=by rw[e1];rfl
   have ac2:w1.cell? ⟨C.wb,10,none⟩=some (.int .i64 s.zk):=HW1.out.cell 10;generalize hR:Plain.extend C.data C.lim (o+512) h s=R at hx;have HR:=ah hR;unfold Plain.Rt at hx;clear e1 hR hty;by_cases hl:0<s.zk
   .rw[if_pos hl] at hx;subst hx;go_wp2_with (go_at_call 112;refine(dF _ _ _).mono ?_;rintro e w5 ⟨rfl,rfl⟩)
    refine⟨rfl,?_⟩;unfold AL;rw[HR.out];exact⟨⟨rfl,HW1.out⟩,gL.of HB1.out⟩
   .rw[if_neg hl] at hx;have HPR:=ah (fun (wr:World)(hb:Below w1.heap.size w1 wr)=>FY C hC A o s h.size wr (HW1.out.below hb) hs0 (by omega) ho);generalize hrc:Plain.recs C.data C.lim (o+512) h.size=rc at hx;have HRC:=ah hrc;clear hrc
    cases rc with
    | error c =>
     simp only at hx;subst hx;have Lb:Hid (∀ wr,Below w1.heap.size w1 wr->Calls qp0 148 #[.pointer (some ⟨C.wb,0,none⟩),.int .i64 h.size] wr fun e w'=>e=.panicked (mK c)/\Wk C A o s w'/\Below wr.heap.size wr w'):=ah (fun wr hb=>(HPR.out wr hb).mono fun e w' h=>by
      unfold oP at h;rw[HRC.out] at h;exact h)
     clear HPR;go_upto_region 14 with fail
     refine wp_region_held_drew (S:=fun w':World=>w'.cell? ⟨w.heap.size,5,none⟩=some (.int .i64 h.size)) (by kernel_rfl) H5.out (fun hHeld=>?_);refine oK 0 (.pointer (some ⟨C.wb,0,none⟩)) ?_ ?_
     .intro wz hSw
      (try dsimp only at hSw)
      go_simp
     (try simp only[Act.put,eu,dY,qzs,qzl])
     refine oK 1 (.pointer (some ⟨C.wb,0,none⟩)) ?_ ?_
     .intro wz hSw
      (try dsimp only at hSw)
      go_simp
     (try simp only[Act.put,eu,dY,qzs,qzl])
     refine oK 2 (.pointer (some ⟨C.wb,0,none⟩)) ?_ ?_
     .intro wz hSw
      (try dsimp only at hSw)
      go_simp
     (try simp only[Act.put,eu,dY,qzs,qzl])
     refine oK 3 (.pointer (some ⟨w.heap.size,5,none⟩)) ?_ ?_
     .intro wz hSw
      (try dsimp only at hSw)
      go_simp
     (try simp only[Act.put,eu,dY,qzs,qzl])
     refine oK 4 (.int .i64 h.size) ?_ ?_
     .intro wz hSw
      (try dsimp only at hSw)
      go_simp
     (try simp only[Act.put,eu,dY,qzs,qzl])
     refine oK 6 (.pointer (some ⟨w.heap.size,5,none⟩)) ?_ ?_
     .intro wz hSw
      (try dsimp only at hSw)
      go_simp
     (try simp only[Act.put,eu,dY,qzs,qzl])
     refine oK 7 (.int .i64 h.size) ?_ ?_
     .intro wz hSw
      (try dsimp only at hSw)
      go_simp
     (try simp only[Act.put,eu,dY,qzs,qzl])
     refine wpAnyH_ready (rs:=[5]) (by kernel_rfl) (by simp) ?_;refine AllReadyH.cons (o:=_) rfl (fun K hK=>?_) AllReadyH.nil;go_simp
     (go_at_call 148;(refine(Lb.out _ ((Below.refl w1.heap.size w1).drew)).mono ?_);rintro e7 w7 ⟨rfl,Pv,mq⟩)
     have hd7:=Below.seq ((Below.refl w1.heap.size w1).drew) mq
     (try go_wp2_with fail)
     exact⟨rfl,by unfold AL;rw[HR.out];exact⟨⟨rfl,Pv⟩,(gL.of HB1.out).trans (gL.of hd7)⟩⟩
    | ok ps =>
     simp only at hx;subst hx;have Lb:Hid (∀ wr,Below w1.heap.size w1 wr->Calls qp0 148 #[.pointer (some ⟨C.wb,0,none⟩),.int .i64 h.size] wr fun e w'=>∃ a m c,e=.returned (.slice a m c)/\w'.ownsRow C.w0.heap.size 160 2 (.slice a m c) m (ps.flatMap aR)/\Wk C A o s w'/\Below wr.heap.size wr w'):=ah (fun wr hb=>(HPR.out wr hb).mono fun e w' h=>by
      unfold oP at h;rw[HRC.out] at h;obtain⟨⟨a,m,c,h1,h2⟩,h3⟩:=h;exact⟨a,m,c,h1,h2,h3⟩)
     clear HPR;have hlim:C.lim.iP<=1048576:=by have:=hC.lim;unfold Plain.eT at this;have:=of_decide_eq_true this;omega
     have af9:w.heap.size≠C.wb:=fun e=>by have h1:=(fT.1 HW.out.row).1;omega
     go_upto_region 14 with fail
     refine wp_region_held_drew (S:=fun w':World=>w'.cell? ⟨w.heap.size,5,none⟩=some (.int .i64 h.size)) (by kernel_rfl) H5.out (fun hHeld=>?_);refine oK 0 (.pointer (some ⟨C.wb,0,none⟩)) ?_ ?_
     .intro wz hSw
      (try dsimp only at hSw)
      go_simp
     (try simp only[Act.put,eu,dY,qzs,qzl])
     refine oK 1 (.pointer (some ⟨C.wb,0,none⟩)) ?_ ?_
     .intro wz hSw
      (try dsimp only at hSw)
      go_simp
     (try simp only[Act.put,eu,dY,qzs,qzl])
     refine oK 2 (.pointer (some ⟨C.wb,0,none⟩)) ?_ ?_
     .intro wz hSw
      (try dsimp only at hSw)
      go_simp
     (try simp only[Act.put,eu,dY,qzs,qzl])
     refine oK 3 (.pointer (some ⟨w.heap.size,5,none⟩)) ?_ ?_
     .intro wz hSw
      (try dsimp only at hSw)
      go_simp
     (try simp only[Act.put,eu,dY,qzs,qzl])
     refine oK 4 (.int .i64 h.size) ?_ ?_
     .intro wz hSw
      (try dsimp only at hSw)
      go_simp
     (try simp only[Act.put,eu,dY,qzs,qzl])
     refine oK 6 (.pointer (some ⟨w.heap.size,5,none⟩)) ?_ ?_
     .intro wz hSw
      (try dsimp only at hSw)
      go_simp
     (try simp only[Act.put,eu,dY,qzs,qzl])
     refine oK 7 (.int .i64 h.size) ?_ ?_
     .intro wz hSw
      (try dsimp only at hSw)
      go_simp
     (try simp only[Act.put,eu,dY,qzs,qzl])
     refine wpAnyH_ready (rs:=[5]) (by kernel_rfl) (by simp) ?_;refine AllReadyH.cons (o:=_) rfl (fun K hK=>?_) AllReadyH.nil;go_simp
     (go_at_call 148;(refine(Lb.out _ ((Below.refl w1.heap.size w1).drew)).mono ?_);rintro e7 w7 ⟨a7,n7,c7,rfl,Pd,Pv,mq⟩)
     have hd7:=Below.seq ((Below.refl w1.heap.size w1).drew) mq;have h57:=Below.keeps hd7 _ _ H5.out;have RN:w7.cell? ⟨C.wb,9,none⟩=some (.slice A.la A.ln A.lc):=Pv.cell 9;have hf9:=aS Pv.row 9;have MP:=aO Pv.row (j:=9) (.slice a7 n7 c7);have TA:(w7.setCell ⟨C.wb,9,none⟩ (.slice a7 n7 c7)).cell? ⟨C.wb,10,none⟩=some (.int .i64 s.zk):=aG MP 10;have RJ:=aS MP 10;have h58:(w7.setCell ⟨C.wb,9,none⟩ (.slice a7 n7 c7)).cell? ⟨w.heap.size,5,none⟩=some (.int .i64 h.size):=(aD w7 C.wb 9 (.slice a7 n7 c7)).cell h57 (fun e=>af9 (pQ e));have h59:=(aD (w7.setCell ⟨C.wb,9,none⟩ (.slice a7 n7 c7)) C.wb 10 (.int .i64 h.size)).cell h58 (fun e=>af9 (pQ e))
     (try go_wp2_with fail)
     refine hK.out _ _ h57 (fun hH5=>?_);clear hK K
     (try simp only[Act.put,eu,dY,qzs,qzl])
     refine oK 8 (.pointer (some ⟨C.wb,0,none⟩)) ?_ ?_
     .intro wz hSw
      (try dsimp only at hSw)
      go_simp
     (try simp only[Act.put,eu,dY,qzs,qzl])
     refine oK 9 (.pointer (some ⟨C.wb,9,none⟩)) ?_ ?_
     .intro wz hSw
      (try dsimp only at hSw)
      go_simp
     (try simp only[Act.put,eu,dY,qzs,qzl])
     refine wpAnyH_ready (rs:=[10]) (by kernel_rfl) (by simp) ?_;refine AllReadyH.cons (o:=_) rfl (fun K hK=>?_) AllReadyH.nil;go_simp;refine hK.out _ _ h58 (fun hH6=>?_);clear hK K
     (try simp only[Act.put,eu,dY,qzs,qzl])
     refine oK 11 (.pointer (some ⟨C.wb,0,none⟩)) ?_ ?_
     .intro wz hSw
      (try dsimp only at hSw)
      go_simp
     (try simp only[Act.put,eu,dY,qzs,qzl])
     refine oK 12 (.pointer (some ⟨C.wb,10,none⟩)) ?_ ?_
     .intro wz hSw
      (try dsimp only at hSw)
      go_simp
     (try simp only[Act.put,eu,dY,qzs,qzl])
     refine wpAnyH_ready (rs:=[13]) (by kernel_rfl) (by simp) ?_;refine AllReadyH.cons (o:=_) rfl (fun K hK=>?_) AllReadyH.nil;go_simp;refine hK.out _ _ h59 (fun hH7=>?_);clear hK K
     (try simp only[Act.put,eu,dY,qzs,qzl])
     refine wpAnyH_done (by kernel_rfl) ?_ _;go_wp2_with fail
     go_meet;refine⟨_,{s with loc:=ps,zk:=h.size},ah HR.out,ah rfl,ah (Pv.O9 hC h.size Pd (G7 HRC.out hlim) hs0 (K8 HRC.out)),ah ?_⟩;exact(((gL.of HB1.out).trans (gL.of hd7)).grow (aD _ _ _ _) (.inl rfl)).grow (aD _ _ _ _) (.inl rfl)
  .
   have hx:Plain.extend C.data C.lim (o+512) h s=Plain.Ui C.data C.lim (o+512) h s:=by unfold Plain.extend;rw[if_neg e1,if_pos e2]
   have hb:(((h.ty.toNat:Nat):Int)==120)=false:=by rw[e2];rfl
   have hb2:(((h.ty.toNat:Nat):Int)==103)=true:=by rw[e2];rfl
   have Kr:=ah (zT C A o s w1 HW1.out);generalize hR:Plain.extend C.data C.lim (o+512) h s=R at hx;have HR:=ah hR;unfold Plain.Ui at hx;clear e1 e2 hR hty
   cases hp:Plain.pend s with
   | true =>
    rw[hp] at Kr;rw[hp,if_pos rfl] at hx;subst hx;clear hp;go_wp2_with (first|(go_at_call 147;refine(Kr.out).mono ?_;rintro e w5 ⟨rfl,rfl⟩)|(go_at_call 112;refine(dF _ _ _).mono ?_;rintro e w5 ⟨rfl,rfl⟩))
    refine⟨rfl,?_⟩;unfold AL;rw[HR.out];exact⟨⟨rfl,HW1.out⟩,gL.of HB1.out⟩
   | false =>
    rw[hp] at Kr;rw[hp,if_neg (by decide)] at hx;clear hp;have h5:=H5.out;have HPR:=ah (FY C hC A o s h.size w1 HW1.out hs0 (by omega) ho);generalize hrc:Plain.recs C.data C.lim (o+512) h.size=rc at hx;have HRC:=ah hrc;clear hrc
    cases rc with
    | error c =>
     simp only at hx;subst hx;have Lb:Hid (Calls qp0 148 #[.pointer (some ⟨C.wb,0,none⟩),.int .i64 h.size] w1 fun e w'=>e=.panicked (mK c)/\Wk C A o s w'/\Below w1.heap.size w1 w'):=ah (HPR.out.mono fun e w' h=>by
      unfold oP at h;rw[HRC.out] at h;exact h)
     clear HPR;go_wp2_with (first|(go_at_call 147;refine(Kr.out).mono ?_;rintro e w5 ⟨rfl,rfl⟩)|(go_at_call 148;(refine(Lb.out).mono ?_);rintro e7 w7 ⟨rfl,Pv,mq⟩;have JK:=ah Pv;have MX:=ah mq;clear mq Pv))
     refine⟨rfl,?_⟩;unfold AL;rw[HR.out];exact⟨⟨rfl,JK.out⟩,(gL.of HB1.out).trans (gL.of MX.out)⟩
    | ok ps =>
     simp only at hx;have Lb:Hid (Calls qp0 148 #[.pointer (some ⟨C.wb,0,none⟩),.int .i64 h.size] w1 fun e w'=>∃ a m c,e=.returned (.slice a m c)/\w'.ownsRow C.w0.heap.size 160 2 (.slice a m c) m (ps.flatMap aR)/\Wk C A o s w'/\Below w1.heap.size w1 w'):=ah (HPR.out.mono fun e w' h=>by
      unfold oP at h;rw[HRC.out] at h;obtain⟨⟨a,m,c,h1,h2⟩,h3⟩:=h;exact⟨a,m,c,h1,h2,h3⟩)
     clear HPR;have hlim:C.lim.iP<=1048576:=by have:=hC.lim;unfold Plain.eT at this;have:=of_decide_eq_true this;omega
     have ag0:=ah (G7 HRC.out hlim);have HKP:=ah (fun (w7:World)(a:Option Addr)(m c:Nat)(hk:Wk C A o s w7)(hp:uD w7 a m c ps)=>WL C hC A o s a m c ps w7 hk hp ag0.out);by_cases hT:C.lim.iP<Plain.iZ (Plain.merge s.glob ps)
     .rw[if_pos hT] at hx;subst hx;have ade:Hid (∀ (w7:World)(a:Option Addr)(m c:Nat),Wk C A o s w7->uD w7 a m c ps->Calls qp0 149 #[.pointer (some ⟨C.wb,0,none⟩),.slice a m c] w7 fun e w'=>e=.panicked (mK 74)/\Wk C A o s w'/\Below w7.heap.size w7 w'):=ah (fun w7 a m c hk hp=>(HKP.out w7 a m c hk hp).mono fun e w' h=>by
       unfold BI at h;rw[if_pos hT] at h;exact h)
      clear HKP hT;go_wp2_with (first|(go_at_call 147;refine(Kr.out).mono ?_;rintro e w5 ⟨rfl,rfl⟩)|(go_at_call 148;(refine(Lb.out).mono ?_);rintro e7 w7 ⟨a7,n7,c7,rfl,Pd,Pv,mq⟩;have HO7:=ah Pd;have JK:=ah Pv;have MX:=ah mq;clear mq Pv Pd)|(go_at_call 149;(refine(ade.out w7 a7 n7 c7 JK.out (mR HO7.out)).mono ?_);rintro e8 w8 ⟨rfl,hk8,Zi⟩;have HW8:=ah hk8;have HB8:=ah Zi;clear hk8 Zi))
      refine⟨rfl,?_⟩;unfold AL;rw[HR.out];exact⟨⟨rfl,HW8.out⟩,((gL.of HB1.out).trans (gL.of MX.out)).trans (gL.of HB8.out)⟩
     .rw[if_neg hT] at hx;subst hx;have ade:Hid (∀ (w7:World)(a:Option Addr)(m c:Nat),Wk C A o s w7->uD w7 a m c ps->Calls qp0 149 #[.pointer (some ⟨C.wb,0,none⟩),.slice a m c] w7 fun e w'=>e=.returned (.tuple #[])/\(∃ A',Wk C A' o {s with glob:=Plain.merge s.glob ps} w')/\gL C w7 w'):=ah (fun w7 a m c hk hp=>(HKP.out w7 a m c hk hp).mono fun e w' h=>by
       unfold BI at h;rw[if_neg hT] at h;exact h)
      clear HKP hT;go_wp2_with (first|(go_at_call 147;refine(Kr.out).mono ?_;rintro e w5 ⟨rfl,rfl⟩)|(go_at_call 148;(refine(Lb.out).mono ?_);rintro e7 w7 ⟨a7,n7,c7,rfl,Pd,Pv,mq⟩;have HO7:=ah Pd;have JK:=ah Pv;have MX:=ah mq;clear mq Pv Pd)|(go_at_call 149;(refine(ade.out w7 a7 n7 c7 JK.out (mR HO7.out)).mono ?_);rintro e8 w8 ⟨rfl,hk8,Zi⟩;have HW8:=ah hk8;have HB8:=ah Zi;clear hk8 Zi))
      go_meet;obtain⟨A',hk8⟩:=HW8.out;exact⟨A',{s with glob:=Plain.merge s.glob ps},ah HR.out,ah rfl,ah hk8,ah (((gL.of HB1.out).trans (gL.of MX.out)).trans HB8.out)⟩
  .
   have hx:Plain.extend C.data C.lim (o+512) h s=Plain.Tg C.data C.lim (o+512) h s:=by unfold Plain.extend;rw[if_neg e1,if_neg e2]
   have hb:(((h.ty.toNat:Nat):Int)==120)=false:=by rcases e3 with e|e <;> (rw[e];rfl)
   have hb2:(((h.ty.toNat:Nat):Int)==103)=false:=by rcases e3 with e|e <;> (rw[e];rfl)
   have SX:=ah e3;generalize hR:Plain.extend C.data C.lim (o+512) h s=R at hx;have HR:=ah hR;unfold Plain.Tg at hx;clear e1 e2 e3 hR hty;have hdd:Below w1.heap.size w1 w1.drew:=(Below.refl _ _).drew;have agO:=look_ok (HW1.out.below hdd) h.ty SX.out;have hbA:Below w1.heap.size w1 (w1.alloc (.cells #[.string ⟨#[]⟩] 213)).drew:=((Below.refl w1.heap.size w1).alloc (aY _) _).drew;have ahz:=look_ok (HW1.out.below hbA) h.ty SX.out;have h7B:=Below.keeps hbA _ _ h7;have agn:(w1.alloc (.cells #[.string ⟨#[]⟩] 213)).drew.cell? ⟨C.wb,11,none⟩=some (.map (some C.mb)):=(HW1.out.below hbA).cell 11;have HBA:=ah hbA;clear hbA;have Yf:w1.cell? ⟨C.wb,11,none⟩=some (.map (some C.mb)):=HW1.out.cell 11;have hfl:=EJ s h.ty SX.out;generalize hlo:Plain.oJ s h.ty=lo at *
   have HLO:=ah hlo;clear hdd hlo;go_upto_region 2 with fail
   go_cut [4,5] from 12 to 21 (fun _ v5 wx=>v5=.bool (!lo.isEmpty)/\Hid (Below w1.heap.size w1 wx))
   case first =>
    go_region
    all_goals
     go_wp2_with fail
     go_meet;exact⟨rfl,ah (by first|exact((Below.refl w1.heap.size w1).alloc (aY _) _).drew|exact(Below.refl w1.heap.size w1).drew.alloc (aY _) _)⟩
   case rest =>
    obtain⟨rfl,HBc⟩:=hcut;clear agO ahz h7B agn HBA Yf;have UO:=ah (HW1.out.below HBc.out);have h5c:=Below.keeps HBc.out _ _ H5.out;have hbc:Hid (gL C w wc):=ah ((gL.of HB1.out).trans (gL.of HBc.out));by_cases hlo:lo=[]
    .rw[if_neg (by simpa using hlo)] at hx;have hle:(!lo.isEmpty)=false:=by rw[hlo];rfl
     rw[if_pos hlo] at hfl;have h1c:wc.cell? ⟨C.wb,1,none⟩=some (.int .i64 C.lim.name):=UO.out.cell 1;have hln:=hC.lim;unfold Plain.eT at hln;have hln:=of_decide_eq_true hln;have hn1:C.lim.name<=4096:=hln.2.1;have hn0:1<=C.lim.name:=hln.1;have Ro:=ah hlo;have UR:=ah hfl;clear hfl hlo hln;generalize (!lo.isEmpty)=lob at hle;subst hle;by_cases hsz:C.lim.name+1<h.size
     .rw[if_pos hsz] at hx;subst hx;go_upto_region 5 with fail
      go_quiet (fail)
      go_wp2_with (go_at_call 112;refine(dF _ _ _).mono ?_;rintro e w5 ⟨rfl,rfl⟩)
      refine⟨rfl,?_⟩;unfold AL;rw[HR.out];exact⟨⟨rfl,UO.out.below (Below.drewN (Below.refl _ _) nq)⟩,hbc.out.trans (gL.of (Below.drewN (Below.refl wc.heap.size wc) nq))⟩
     .rw[if_neg hsz] at hx;have agl:¬ C.lim.name+1<h.size:=hsz;go_upto_region 5 with fail
      go_quiet (fail)
      have HWd:=ah (UO.out.below (Below.drewN (Below.refl _ _) nq));have hbd:Hid (gL C w (wc.drewN nq)):=ah (hbc.out.trans (gL.of (Below.drewN (Below.refl wc.heap.size wc) nq)));have h5d:(wc.drewN nq).cell? ⟨w.heap.size,5,none⟩=some (.int .i64 h.size):=h5c;have h7d:(wc.drewN nq).cell? ⟨w.heap.size,7,none⟩=some (.int .u8 (h.ty.toNat:Int)):=Below.keeps HBc.out _ _ h7;clear h1c h5c agl;generalize wc.drewN nq=wd at *
      clear UO hbc HBc;have ZP:=ah (sN C hC A o s h.size wd HWd.out hs0 (by omega) ho)
      cases hth:Plain.there C.data (o+512) h.size with
      | false =>
       rw[if_pos hth] at hx;subst hx;have Mj:Hid (Calls qp0 150 #[.pointer (some ⟨C.wb,0,none⟩),.int .i64 h.size] wd fun e w'=>e=.panicked (mK 70)/\Wk C A o s w'/\Below wd.heap.size wd w'):=ah (ZP.out.mono fun e w' h=>⟨by
        rcases h.1 with⟨h2,_⟩|⟨_,h2⟩
        .rw[hth] at h2;cases h2
        .exact h2,h.2⟩)
       clear ZP hth;go_wp2_with (go_at_call 150;refine(Mj.out).mono ?_;rintro e w3 ⟨rfl,h3,h4⟩;have HW3:=ah h3;have HB3:=ah h4;clear h3 h4)
       refine⟨rfl,?_⟩;unfold AL;rw[HR.out];exact⟨⟨rfl,HW3.out⟩,hbd.out.trans (gL.of HB3.out)⟩
      | true =>
       rw[if_neg (by rw[hth];decide)] at hx;obtain⟨N,hN0⟩:=Xq hs0;have hN:h.size=(N:Int):=hN0;clear hN0;have hle:=Plain.xU (d:=C.data) (o:=o+512) (by rw[hC.dat.len];exact ho) hth;rw[hC.dat.len,hN] at hle;have hle:o+512+N<=C.dn:=hle;have Mj:Hid (Calls qp0 150 #[.pointer (some ⟨C.wb,0,none⟩),.int .i64 h.size] wd fun e w'=>∃ a',e=.returned (.slice a' N (C.dc-(o+512)))/\Bs w' a' N (C.dc-(o+512)) (eH C.data (o+512) (o+512+N))/\Wk C A o s w'/\Below wd.heap.size wd w'):=ah (ZP.out.mono fun e w' h=>by
        rcases h.1 with⟨_,h2⟩|⟨h2,_⟩
        .obtain⟨a',e1,e2⟩:=xk (hC.bs h.2.1.bJ) (o+512) (o+512+N) (by omega) hle;have e3:o+512+N-(o+512)=N:=by omega
         rw[e3] at e1 e2;rw[hN] at h2;exact⟨a',by rw[h2];exact congrArg _ e1,e2,h.2⟩
        .rw[hth] at h2;cases h2)
       have eN:h.size.toNat=N:=by rw[hN];rfl
       rw[eN] at hx;have hDl:(eH C.data (o+512) (o+512+N)).length=N:=by rw[tQ _ _ _ (by rw[hC.dat.len];exact hle)];omega
       generalize eH C.data (o+512) (o+512+N)=D at *
       have HTX:=ah (fun (wr:World) (a':Option Addr) (hb:Bs wr a' N (C.dc-(o+512)) D)=>pO a' N (C.dc-(o+512)) D wr hb);have htl:(Plain.text D).length<=N:=by
        rw[<-hDl];exact(List.takeWhile_sublist _).length_le
       simp only at hx;generalize Plain.text D=t at *
       have hNs:N<=4097:=by omega
       clear ZP hth hle eN hDl hN;by_cases hbad:t=[]\/C.lim.name<t.length
       .rw[if_pos hbad] at hx;subst hx;have hcs:(t.isEmpty=true)\/(t.isEmpty=false/\C.lim.name<(t.length:Int)):=by
         cases t with
         | nil=>exact .inl rfl
         | cons c t=>exact .inr ⟨rfl,hbad.resolve_left (by simp)⟩
        clear hbad;rcases hcs with ht|⟨ht,ht2⟩
        all_goals
         go_upto_region 8 with(first|(go_at_call 150;refine(Mj.out).mono ?_;rintro e w3 ⟨a',rfl,hbs,h3,h4⟩;have R5:=ah hbs;have HW3:=ah h3;have HB3:=ah h4;clear hbs h3 h4)|(go_at_call 146;refine(HTX.out _ _ R5.out).mono ?_;rintro e w4 ⟨rfl,rfl⟩))
         have h1e:w3.cell? ⟨C.wb,1,none⟩=some (.int .i64 C.lim.name):=HW3.out.cell 1;go_wp2_with (go_at_call 112;refine(dF _ _ _).mono ?_;rintro e w5 ⟨rfl,rfl⟩)
         refine⟨rfl,?_⟩;unfold AL;rw[HR.out];exact⟨⟨rfl,HW3.out⟩,hbd.out.trans (gL.of HB3.out)⟩
       .rw[if_neg hbad] at hx;subst hx;have ht0:t≠[]:=fun e=>hbad (.inl e)
        have ht:t.isEmpty=false:=by simpa using ht0
        have ht2:¬ C.lim.name<(t.length:Int):=fun e=>hbad (.inr e)
        have HT0:=ah ht0;clear hbad ht0;go_upto_region 8 with(first|(go_at_call 150;refine(Mj.out).mono ?_;rintro e w3 ⟨a',rfl,hbs,h3,h4⟩;have R5:=ah hbs;have HW3:=ah h3;have HB3:=ah h4;clear hbs h3 h4)|(go_at_call 146;refine(HTX.out _ _ R5.out).mono ?_;rintro e w4 ⟨rfl,rfl⟩))
        have h1e:w3.cell? ⟨C.wb,1,none⟩=some (.int .i64 C.lim.name):=HW3.out.cell 1;go_upto_region 10 with fail
        have ahN:w3.cell? ⟨C.wb,11,none⟩=some (.map (some C.mb)):=HW3.out.cell 11;have h7e:=Below.keeps HB3.out _ _ h7d;have hsz2:JM s<=2:=by unfold JM;split <;> split <;> omega
        go_still_tail 8,(by kernel_rfl)
        change wpList _ _ _ _ _ w3.drew
        go_wp2_with (at_mapUpdate;refine Gr.uT rfl _ _ _ 83 rfl 213 lawB underlying83 rfl (HW3.out.long.block (w':=w3.drew) rfl) (by unfold maxLen;omega) _ h.ty rfl (Qm h.ty) (lgV t) rfl aaM ?_;intro w5 hm5 hg5;have ET:w3.grownBy w5 (some C.mb):=⟨hg5.os,hg5.tape,hg5.output,hg5.size,hg5.block⟩;have qZ:=ah (HW3.out.dD hC h.ty SX.out t HT0.out (by omega) (by rw[HLO.out];exact Ro.out) hm5 ET);have HG6:=ah ET;clear hm5 hg5 ET)
        go_meet;exact⟨A,Plain.dD s h.ty t,ah HR.out,ah (by unfold Plain.dD;split <;> rfl),qZ,ah ((hbd.out.trans (gL.of HB3.out)).grow HG6.out (.inr (.inl rfl)))⟩
    .rw[if_pos (by simpa using hlo)] at hx;subst hx;have hle:(!lo.isEmpty)=true:=by simp[hlo]
     clear hlo;generalize (!lo.isEmpty)=lob at hle;subst hle;go_wp2_with (go_at_call 112;refine(dF _ _ _).mono ?_;rintro e w5 ⟨rfl,rfl⟩)
     refine⟨rfl,?_⟩;unfold AL;rw[HR.out];exact⟨⟨rfl,UO.out⟩,hbc.out⟩
 case rest =>
  obtain⟨A1,s1,HX,HHD,ML,HBW⟩:=hcut;have hc8:wc.cell? ⟨C.wb,8,none⟩=some (.slice A1.ga A1.gn A1.gc):=ML.out.cell 8;have ac2:wc.cell? ⟨C.wb,10,none⟩=some (.int .i64 s1.zk):=ML.out.cell 10;have HD:=ah (And.intro hc8 ac2);have HWT:=ah (fun w' (hb:Below wc.heap.size wc w')=>Eu A1.ga A1.gn A1.gc s1.glob w' (ML.out.below hb).Rp (hC.pw.below (ML.out.below hb).bJ) (by have:=ML.out.Rp.len;have:=ML.out.gb.1;omega) ML.out.gb.2);have hpz:=Plain.jD s1.glob;have hpb:=ML.out.fit.1;have hlz:=ML.out.fit.2.1;have hlb:=ML.out.fit.2.2.1;have hlim:C.lim.iP<=1048576:=by have:=hC.lim;unfold Plain.eT at this;have:=of_decide_eq_true this;omega
  have HPS:Hid (Plain.iZ s1.glob=Plain.iZ s1.glob):=ah rfl;generalize hT:Plain.iZ s1.glob=T at *
  have HT:=ah hT;clear hc8 ac2 HPS hT hty H5 HR1 h7 HW1 HB1;go_upto_region 19 with fail
  go_region_held3 (fun w'=>w'.cell? ⟨C.wb,8,none⟩=some (.slice A1.ga A1.gn A1.gc)/\w'.cell? ⟨C.wb,10,none⟩=some (.int .i64 s1.zk)) (first|exact HD.out|exact HD7.out) (first|(go_at_call 151;(refine(HWT.out _ ((Below.refl wc.heap.size wc).drew)).mono ?_);rintro e7 w7 ⟨rfl,mq⟩;have hd7:=Below.seq ((Below.refl wc.heap.size wc).drew) mq;have HD7:=ah (And.intro (Below.keeps hd7 _ _ HD.out.1) (Below.keeps hd7 _ _ HD.out.2));have MX:=ah hd7;clear mq hd7))
  have JK:=ah (ML.out.below MX.out);have HBB:Hid (gL C w w7):=ah (HBW.out.trans (gL.of MX.out));have h11:w7.cell? ⟨C.wb,11,none⟩=some (.map (some C.mb)):=JK.out.cell 11;obtain⟨D,hD1,hD2,hD3⟩:=JK.out.long;have HD1:=ah hD1;have HD3:=ah hD3;clear hD1 hD2 hD3 HD HD7 HWT;go_wp2_with (at_range;refine wpList_range_own _ rfl _ 83 rfl 5 213 lawB underlying83 Gr.held C.mb (JM s1) D rfl HD1.out ?_;intro w8 acW hg8 hs8)
  go_frame;have hrs:w7.heap.size≠C.mb:=acW.ne;have Zi:Below w7.heap.size w7 w8:=Ns hg8;have ahk:=ah acW;have HB8:=ah Zi;have hb0:=ML.out.fit.2.2.2.1;have hb1:=ML.out.fit.2.2.2.2.1;have hnm:C.lim.name<=4096:=by have:=hC.lim;unfold Plain.eT at this;have:=of_decide_eq_true this;omega
  have afn:s1.ln.length<=4096:=by omega
  have aeS:s1.lr.length<=4096:=by omega
  have HSB:=ah (aaE s1 afn aeS);have HS0:=ah (TF s1 D HD3.out);clear acW Zi hg8 hs8 hb0 hb1 hnm afn aeS h11;go_loopw [7] (fun t wr=>∃ (left:Lit->Bool)(cnt:Nat),t=.int .i64 (T+s1.zk+vH s1 left)/\Hid (wr.ranges qp0 5 Gr.held C.mb w7.heap.size (JM s1) D left cnt)/\Hid (Below w7.heap.size w7 wr)/\Hid (∀ z,left z=true->Maps.has D z=true)) (fun _ wr=>wr.rangeLeft C.mb w7.heap.size)
  case atStart=>exact⟨Maps.has D,Maps.size D,by rw[HS0.out,Int.add_zero];first|rfl|(congr 1;rw[IntKind.wrap_i64];omega),ahk,HB8,ah (fun z h=>h)⟩
  case round =>
   obtain⟨left,cnt,rfl,hrg,hbel,hsub⟩:=hrel;have hSb:=HSB.out left;have hlf:=hrg.out.left_eq;have HLF:=ah hlf;clear hlf;go_wp2_with (at_next;refine wpList_next_ranges _ rfl _ rfl 5 lawB Gr.held (Value.int .u8) (fun v=>v) (fun key kl hkey=>by obtain⟨x,rfl,_⟩:=Maps.keyOf_int_inv underlying5 hkey;exact⟨x,rfl⟩) (fun v y hv=>⟨v,rfl⟩) C.mb w7.heap.size (JM s1) D left cnt rfl hrg.out ?_ ?_)
   .intro hc0 hl0;have hS:vH s1 left=(s1.ln.length:Int)+s1.lr.length:=by unfold vH;rw[hl0,hl0];simp
    have HS:=ah hS;have HWr:=ah (JK.out.below hbel.out);have hx1:wr.cell? ⟨C.wb,7,none⟩=some (.int .i64 s1.held):=HWr.out.cell 7;have hx2:=aS HWr.out.row 7;clear hS hl0 hc0;go_wp2
    go_end0;unfold AL;rw[HX.out];have e:T+s1.zk+vH s1 left=Plain.qN s1:=by unfold Plain.qN;rw[HS.out,HT.out];omega
    rw[e];exact⟨⟨rfl,A1,HWr.out.setH hC⟩,(HBB.out.trans (gL.of hbel.out)).grow (aD _ _ _ _) (.inl rfl)⟩
   .intro x c kl y ps w9 agA hkey hlk hv hat afO agp afw agZ hen;obtain⟨txt,rfl,hst⟩:=round_facts s1 D HD3.out x c kl y ps hkey (hsub.out kl hlk) hv hat left hlk;have HST:=ah hst;have aek:=ah afO;have Xi:Below w7.heap.size w7 w9:=hbel.out.grown afw hbel.out.size (fun k hk=>by have:=pQ hk;omega);have HB9:=ah Xi;have hS9:=HSB.out (fun z=>left z&&!z.sameKey kl);rw[hst] at hS9;have ahM:=aek.out.left_eq;clear hkey hlk hv hat hst afO afw agZ Xi;go_wp2
    refine⟨⟨fun z=>left z&&!z.sameKey kl,agA,by rw[HST.out];congr 1;omega,ah (aek.out.alloc _),ah (HB9.out.alloc HB9.out.size _),ah (fun z hz=>hsub.out z (by simp only[fE] at hz;exact hz.1))⟩,?_⟩;rw[(aek.out.alloc _).left_eq,HLF.out];exact agp
end St
end
end Go.Proofs.YtdbgldieilgnmaaGreatDoor
