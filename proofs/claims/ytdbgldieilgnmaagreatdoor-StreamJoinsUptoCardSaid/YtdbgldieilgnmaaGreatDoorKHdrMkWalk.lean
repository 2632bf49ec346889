/- KHdrMkWalk -/
import Derived.Test.YtdbgldieilgnmaaGreatDoorK05
set_option linter.all false
set_option maxHeartbeats 8000000
set_option maxRecDepth 100000
namespace Go.Proofs.YtdbgldieilgnmaaGreatDoor
open ChangeShapes WideShapes ChangeAt RowKit
section
variable {P:Program}{ops:Array Oper}{rest:List Oper}{o:Oper}{a:Act}{w:World}{Q:Exit->Act->World->Prop}{K:Act->World->Prop}{E:Prop}
theorem q8(dT sT ty elem:TypeId)(hu:P.underlying dT=some (.slice elem))(hsz:(P.info? elem).map (·.size)=some 1)(g off dLen dCap:Nat)(l m:List UInt8){t:TypeId}(hg:w.heap[g]? = some (.cells (aL l) t (0,0)))(hle:m.length<=dLen)(hfit:off+m.length<=l.length):(Builtin.copy_ #[dT,sT] ty #[.slice (some ⟨g,off,none⟩) dLen dCap,.string ⟨m.toArray⟩]).run P w=.ok (goInt m.length) (w.setRow g (aL (lay l off m))):=by
 have hr:=Lib.run_copy_row_string (P:=P) w dT sT ty elem g off dLen dCap ⟨m.toArray⟩ (aL l) t hu hsz hg (by simpa[ByteArray.size] using hle) (by rw[eZ];simpa[ByteArray.size] using hfit);have e:((aL l).toList.take off++Lib.byteCells m++(aL l).toList.drop (off+m.length)).toArray=aL (lay l off m):=by
  simp[aL,lay,Lib.byteCells,jJ,qbH,qbZ,qce]
 have hsize:(⟨m.toArray⟩:ByteArray).size=m.length:=by simp[ByteArray.size]
 rw[hsize] at hr;simp only at hr;rw[e] at hr;exact hr
theorem jr(hgd:o.guard=none)(d s:Operand)(dT sT:TypeId)(ho:o.op=.call {callee:=.builtin .copy,args:=#[d,s],argTypes:=#[dT,sT]})(elem:TypeId)(hu:P.underlying dT=some (.slice elem))(hsz:(P.info? elem).map (·.size)=some 1)(g off dLen dCap:Nat)(hd:a.eval d=.slice (some ⟨g,off,none⟩) dLen dCap)(l m:List UInt8)(hs:a.eval s=.string ⟨m.toArray⟩){t:TypeId}(hg:w.heap[g]? = some (.cells (aL l) t (0,0)))(hle:m.length<=dLen)(hfit:off+m.length<=l.length)(h:∀ w',w'=w.setRow g (aL (lay l off m))->wpList P ops Q rest (a.put o.dst (goInt m.length)) w'):wpList P ops Q (o::rest) a w:=by
 refine wpList_plain hgd fun K hK=>?_
 have hrun:=q8 (P:=P) (w:=w) dT sT o.type elem hu hsz g off dLen dCap l m hg hle hfit;unfold Oper.wp;simp[execOp,ho,resolve,invoke,builtin,hd,hs,hrun,Result.andThen];exact hK _ _ (h _ rfl)
theorem kR(hgd:o.guard=none)(d s:Operand)(dT sT:TypeId)(ho:o.op=.call {callee:=.builtin .copy,args:=#[d,s],argTypes:=#[dT,sT]})(elem:TypeId)(hu:P.underlying dT=some (.slice elem))(hsz:(P.info? elem).map (·.size)=some 1)(g off dLen dCap:Nat)(hd:a.eval d=.slice (some ⟨g,off,none⟩) dLen dCap)(l m:List UInt8)(hs:a.eval s=.string ⟨m.toArray⟩){t:TypeId}(hg:w.heap[g]? = some (.cells (aL l) t (0,0)))(hle:m.length<=dLen)(hfit:off+m.length<=l.length)(h:∀ w',w'=w.setRow g (aL (lay l off m))->K (a.put o.dst (goInt m.length)) w'):if Region.wanted o (yielded ops a.tmps)=true then Oper.wp P o a w K Q else E:=by
 have hw:Region.wanted o (yielded ops a.tmps)=true:=by unfold Region.wanted;rw[hgd]
 rw[if_pos hw];have hrun:=q8 (P:=P) (w:=w) dT sT o.type elem hu hsz g off dLen dCap l m hg hle hfit;unfold Oper.wp;simp[execOp,ho,resolve,invoke,builtin,hd,hs,hrun,Result.andThen];exact h _ rfl
end
theorem zD(s:List UInt8)(n:Int)(w:World)(hl:s.length<=140737488351232):Calls Tryz.prog 68 #[.string ⟨s.toArray⟩,.int .i64 n] w fun e w'=>e=.returned (.bool (Na s n))/\w=w':=by
 have h0:(0:Int).toNat.toUInt8=0:=rfl;have H0:=ah h0;clear h0;unfold Na;generalize hi:Lib.indexByte s 0=i;have HI:=ah hi;clear hi;by_cases c1:(s.length:Int)<=n
 .rw[show decide ((s.length:Int)<=n)=true from uQ c1];by_cases c2:i<0
  .rw[show decide (i<0)=true from uQ c2];go_enter Tryz.func68,Tryz.ntmps68;go_wp2_with (go_at_call 87;refine(Tryz.strings_IndexByte _ _ _).mono ?_;rintro e w1 ⟨rfl,hw⟩;obtain rfl:=hw.symm;rw[H0.out,HI.out])
   go_ret;exact⟨rfl,rfl⟩
  .rw[show decide (i<0)=false from uU c2];go_enter Tryz.func68,Tryz.ntmps68;go_wp2_with (go_at_call 87;refine(Tryz.strings_IndexByte _ _ _).mono ?_;rintro e w1 ⟨rfl,hw⟩;obtain rfl:=hw.symm;rw[H0.out,HI.out])
   go_ret;exact⟨yw (by first|rfl|exact uU (by omega)),rfl⟩
 .rw[show decide ((s.length:Int)<=n)=false from uU c1];go_enter Tryz.func68,Tryz.ntmps68;go_wp2
  go_ret;exact⟨yw (by first|rfl|exact uU (by omega)),rfl⟩
structure HM(w:World)(h:Hd)(m:List UInt8)(wr:World):Prop where
 bJ:Below w.heap.size w wr
 rx:wr.heap[w.heap.size]? = some (.cells (dQ h) 74 (0,0))
 rr:wr.heap[w.heap.size+1]? = some (.cells (aL cZ) 70 (0,0))
 rb:wr.heap[w.heap.size+2]? = some (.cells (aL m) 70 (0,0))
theorem HM.new(w:World)(h:Hd):HM w h cZ (((w.alloc (.cells (dQ h) 74)).alloc (.cells (aL cZ) 70)).alloc (.cells (aL cZ) 70)):=by
 have e2:((w.alloc (.cells (dQ h) 74)).alloc (.cells (aL cZ) 70)).heap.size=w.heap.size+2:=by simp
 refine⟨(((Below.refl _ _).alloc (aY _) _).alloc (by simp) _).alloc (by simp;omega) _,?_,?_,?_⟩
 .rw[heap_alloc_old _ _ (by omega)];exact heap_alloc2_old _ _ _
 .rw[heap_alloc_old _ _ (by omega)];exact heap_alloc2_new _ _ _
 .have:=heap_alloc_new ((w.alloc (.cells (dQ h) 74)).alloc (.cells (aL cZ) 70)) (.cells (aL cZ) 70);rw[e2] at this;exact this
theorem HM.keep{w wr w':World}{h:Hd}{m:List UInt8}(x:HM w h m wr)(k:Below wr.heap.size wr w'):HM w h m w':=by
 refine⟨Below.seq x.bJ k,?_,?_,?_⟩
 .rw[k.block _ (fT.1 x.rx).1];exact x.rx
 .rw[k.block _ (fT.1 x.rr).1];exact x.rr
 .rw[k.block _ (fT.1 x.rb).1];exact x.rb
theorem HM.lt{w wr:World}{h:Hd}{m:List UInt8}(x:HM w h m wr):w.heap.size+2<wr.heap.size:=(fT.1 x.rb).1
theorem HM.jT{w wr:World}{h:Hd}{m:List UInt8}(x:HM w h m wr)(k:Nat):wr.cell? ⟨w.heap.size,k,none⟩=(dQ h)[k]?:=by rw[cell_of_row _ _ _ _ _ _ x.rx]
theorem HM.afs{w wr:World}{h:Hd}{m:List UInt8}(x:HM w h m wr)(k:Nat)(hk:k<m.length):wr.cell? ⟨w.heap.size+2,k,none⟩=some (.int .u8 ((m.getD k 0).toNat:Int)):=by rw[cell_of_row _ _ _ _ _ _ x.rb,tF _ _ hk]
theorem HM.afj{w wr:World}{h:Hd}{m:List UInt8}(x:HM w h m wr)(k:Nat):wr.frozen? ⟨w.heap.size+2,k,none⟩=false:=frozen_of_row _ _ _ _ _ x.rb
theorem HM.row{w wr:World}{h:Hd}{m:List UInt8}(x:HM w h m wr)(z:List UInt8):HM w h z (wr.setRow (w.heap.size+2) (aL z)):=by
 refine⟨Below.setRow x.bJ (by omega) _,?_,?_,setRow_heap _ _ _ _ _ _ x.rb⟩
 .rw[setRow_other _ _ _ _ (by omega)];exact x.rx
 .rw[setRow_other _ _ _ _ (by omega)];exact x.rr
theorem HM.set{w wr:World}{h:Hd}{m:List UInt8}(x:HM w h m wr)(k:Nat)(b:UInt8):HM w h (m.set k b) (wr.setCell ⟨w.heap.size+2,k,none⟩ (.int .u8 (b.toNat:Int))):=by
 refine⟨x.bJ.setCell (show w.heap.size<=(⟨w.heap.size+2,k,none⟩:Addr).block by simp only;omega) _,?_,?_,?_⟩
 .rw[heap_setCell_other _ _ _ _ (by simp only;omega)];exact x.rx
 .rw[heap_setCell_other _ _ _ _ (by simp only;omega)];exact x.rr
 .rw[heap_setCell_same _ _ _ _ _ _ x.rb,show(Value.int .u8 (b.toNat:Int))=jJ b from rfl,wQ]
structure HV(w:World)(h:Hd)(m:List UInt8)(gv:Nat)(vs:List Int)(wr:World):Prop where
 hm:HM w h m wr
 ge:w.heap.size+2<gv
 rv:wr.heap[gv]? = some (.cells (vC vs) 130 (0,0))
theorem HV.keep{w wr w':World}{h:Hd}{m:List UInt8}{gv:Nat}{vs:List Int}(x:HV w h m gv vs wr)(k:Below wr.heap.size wr w'):HV w h m gv vs w' :=⟨x.hm.keep k,x.ge,by rw[k.block _ (fT.1 x.rv).1];exact x.rv⟩
theorem HV.cell{w wr:World}{h:Hd}{m:List UInt8}{gv:Nat}{vs:List Int}(x:HV w h m gv vs wr)(k:Nat)(hk:k<vs.length):wr.cell? ⟨gv,k,none⟩=some (.int .i64 (vs.getD k 0)):=by
 rw[cell_of_row _ _ _ _ _ _ x.rv,abT _ _ hk]
theorem HV.row{w wr:World}{h:Hd}{m:List UInt8}{gv:Nat}{vs:List Int}(x:HV w h m gv vs wr)(z:List UInt8):HV w h z gv vs (wr.setRow (w.heap.size+2) (aL z)):=by
 have:=x.ge;exact⟨x.hm.row z,x.ge,by rw[setRow_other _ _ _ _ (by omega)];exact x.rv⟩
def ZV(h:Hd):List Int:=[h.mode,h.uid,h.gid,h.size,h.mtime,h.major,h.minor]
theorem abt(h:Hd)(k:Nat)(hk:k<7):(ZV h).getD k 0=Ct h k:=by
 rcases (by omega:k=0\/k=1\/k=2\/k=3\/k=4\/k=5\/k=6) with rfl|rfl|rfl|rfl|rfl|rfl|rfl <;> rfl
theorem Om(k:Nat)(h:k<7):(fieldAt k).1<(fieldAt k).2.1:=by
 rcases (by omega:k=0\/k=1\/k=2\/k=3\/k=4\/k=5\/k=6) with rfl|rfl|rfl|rfl|rfl|rfl|rfl <;> decide
theorem afN{MN M t:List UInt8}{s n:Nat}(h:MN=lay M s t)(hn:t.length=n):aL (M.take s++t++M.drop (s+n))=aL MN:=by subst hn;rw[h];rfl
theorem S9(h:Hd)(hg:rO h=true):(Plain.split h.name).2.1.length<=100/\h.link.length<=100/\h.user.length<=32/\h.group.length<=32/\(Plain.split h.name).1.length<=155:=by
 unfold rO at hg;rw[fE,fE,decide_eq_true_eq] at hg;obtain⟨⟨⟨g1,g2,g3,g4,_⟩,_⟩,_⟩:=hg;rcases Plain.zZ h.name with⟨p,s,hps,w1,w2,w3,_⟩|⟨h1,_⟩
 .rw[hps];exact⟨w2,g2,g3,g4,w3⟩
 .rw[h1] at g1;cases g1
