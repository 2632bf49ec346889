/- J06 -/
import Derived.Test.YtdbgldieilgnmaaGreatDoorJ03
set_option linter.unusedVariables false
set_option linter.unusedSimpArgs false
set_option maxHeartbeats 8000000
set_option maxRecDepth 100000
namespace Go.Proofs.YtdbgldieilgnmaaGreatDoor
section
open Go.Conc
namespace Cc
def T{α:Type}:α->Prop:=fun _=>True
section
variable {α β:Type}{P:Program}{C:α->Prop}{D:β->Prop}
theorem aC{s:Sem α}{f:α->Sem β}(h:ok P T s)(hf:∀ a,ok P D (f a)):ok P D (s >>= f):=d9 (fun a _=>hf a) h
theorem NG{s:Sem α}{f:α->β}(h:ok P T s):ok P (T:β->Prop) (f <$> s):=by
 show ok P T (s.bind fun a=>.pure (f a));exact d9 (P:=P) (C:=T) (D:=T) (f:=fun a=>Sem.pure (f a)) (fun a _=>(trivial:T (f a))) h
theorem ay(a:α):ok P T (pure a:Sem α):=trivial
theorem aA(m:String):ok P C (stuck m:Sem α):=trivial
theorem bH(u:Unsupported):ok P C (unsupported u:Sem α):=trivial
theorem sV(v:Value):ok P C (goPanic v:Sem α):=trivial
end
section
variable {P:Program}
theorem bO:ok P T program:=trivial
theorem Bf(a:Addr):ok P T (load a):=⟨rfl,fun _=>trivial⟩
theorem Xx(a:Addr)(v:Value):ok P T (store a v):=⟨rfl,trivial⟩
theorem kP(o:Obj):ok P T (newObj o):=fun _=>trivial
theorem dP(r:Nat):ok P T (shape r):=fun _=>trivial
theorem F4(a:Addr)(n:Nat):ok P T (freeze a n):=trivial
theorem zx(a:Addr):ok P T (frozen a):=fun _=>trivial
theorem oW(r:Nat):ok P T (getObj r):=fun _=>trivial
theorem dU(q:Question):ok P T (choose q):=fun _=>trivial
theorem uR:ok P T (mark .noRoom):=⟨.inl rfl,trivial⟩
theorem vP(n:Nat):ok P T (askRoom n):=by
 unfold askRoom;split
 .exact uR
 .exact ay _
theorem dN(t:TypeId):ok P T (typeInfo t):=by
 unfold typeInfo;refine aC bO fun p=>?_
 split
 .exact ay _
 .exact aA _
theorem aK(t:TypeId):ok P T (underlying t):=by
 unfold underlying;refine aC bO fun p=>?_
 split
 .exact ay _
 .exact aA _
theorem iJ(t:TypeId):ok P T (zeroValue t):=by
 unfold zeroValue;refine aC (dN t) fun p=>?_
 split
 .exact ay _
 .exact bH _
theorem bM(t:TypeId):ok P T (sizeOf t):=aC (dN t) fun _=>ay _
theorem JW(t:TypeId):ok P T (isAgg t):=by
 unfold isAgg;refine aC (aK t) fun p=>?_
 split <;> exact ay _
theorem oU(a:Addr):∀ (n i:Nat)(acc:Array Value),ok P T (loadCellsFrom a i n acc)
 | 0,i,acc=>ay _
 | n+1,i,acc=>aC (Bf _) fun v=>oU a n (i+1) _
theorem mG(a:Addr)(n:Nat):ok P T (loadCells a n):=oU a n 0 _
theorem iV(a:Addr):∀ (vs:List Value)(i:Nat),ok P T (storeCells a vs i)
 | [],i=>ay _
 | v::vs,i=>aC (Xx _ _) fun _=>iV a vs (i+1)
theorem BU(t:TypeId)(a:Addr):ok P T (loadVar t a):=by
 unfold loadVar;refine aC (JW t) fun b=>?_
 split
 .exact aC (bM t) fun n=>aC (mG a n) fun _=>ay _
 .exact Bf a
theorem Aj(t:TypeId)(a:Addr)(v:Value):ok P T (storeVar t a v):=by
 unfold storeVar;refine aC (bM t) fun n=>?_
 split
 .exact aC (aA _) fun _=>iV a _ 0
 .exact iV a _ 0
theorem kI(t:TypeId)(c:Array Value):ok P T (newRow t c):=aC (kP _) fun _=>ay _
theorem uq(t:TypeId)(v:Value):ok P T (newVar t v):=kI t _
theorem wI(t:TypeId)(cs:Array Value)(off:Nat):ok P T (part t cs off):=by
 unfold part;refine aC (JW t) fun b=>?_
 split
 .exact aC (bM t) fun n=>ay _
 .split
  .exact ay _
  .exact aA _
theorem qE(v:Value):ok P T (asIntOf v):=by
 unfold asIntOf;split <;> first|exact ay _|exact bH _|exact aA _
theorem sF(v:Value):ok P T (asInt v):=aC (qE v) fun _=>ay _
theorem zJ(v:Value):ok P T (asBool v):=by
 unfold asBool;split <;> first|exact ay _|exact aA _
theorem WY(v:Value):ok P T (asAgg v):=by
 unfold asAgg;split <;> first|exact ay _|exact aA _
theorem um(t:TypeId):ok P T (elemOf t):=by
 unfold elemOf;refine aC (aK t) fun p=>?_
 split
 .exact ay _
 .exact aA _
theorem bF{α:Type}{C:α->Prop}(e:RuntimeError):ok P C (runtimePanic e:Sem α):=by
 unfold runtimePanic;refine aC bO fun p=>?_
 dsimp only
 split <;> first|exact sV _|exact aA _|exact bH _|skip
 .exact aC (um _) fun _=>aC (uq _ _) fun _=>sV _
 .exact aC (um _) fun _=>aC (uq _ _) fun _=>sV _
theorem yZ{α:Type}{C:α->Prop}(k:IntKind)(x y:Int)(c:BoundsCode):ok P C (boundsPanic k x y c:Sem α):=by
 unfold boundsPanic;dsimp only
 split
 .exact aC (NG (dU _)) fun _=>bF _
 .exact aC (ay _) fun _=>bF _
theorem lD(v:Value):ok P T (Instr.sureAddr v):=by
 unfold Instr.sureAddr
 repeat' (first| exact ay _|exact aA _|(dsimp only;done)| split| dsimp only)
theorem Uk(t:TypeId)(v:Value):ok P T (Instr.loadAt t v):=aC (lD v) fun a=>BU t a
theorem PN(t:TypeId)(v x:Value):ok P T (Instr.storeAt t v x):=aC (lD v) fun a=>Aj t a x
theorem Y1(e:TypeId)(h:Bool)(o:Value):ok P T (Instr.alloc e h o):=by
 unfold Instr.alloc
 repeat' (first| exact ay _| exact iJ _| exact uq _ _|exact Aj _ _ _|(refine aC ?_ (fun _=>?_))|(dsimp only;done)| split| dsimp only)
theorem ad4(e:TypeId)(v:Value):ok P T (Instr.box e v):=aC (uq e v) fun _=>ay _
theorem E5(t:TypeId)(n:Nat)(ps:Array (Nat×Value)):ok P T (Instr.buildSlice t n ps):=by
 unfold Instr.buildSlice
 repeat' (first| exact ay _|exact aA _|exact bH _| exact aK _|exact bM _|exact iJ _| exact kI _ _|(refine aC ?_ (fun _=>?_))|(dsimp only;done)| split| dsimp only)
theorem Oo(t:TypeId)(x i:Value):ok P T (Instr.indexAt t x i):=by
 unfold Instr.indexAt
 repeat' (first| exact ay _|exact aA _|exact bH _|exact yZ _ _ _ _| exact aK _|exact bM _|exact qE _| exact lD _|(refine aC ?_ (fun _=>?_))|(dsimp only;done)| split| dsimp only)
theorem Fz(x:Value)(y:Nat)(c:BoundsCode):ok P T (Instr.sliceBound x y c):=by
 unfold Instr.sliceBound
 repeat' (first| exact ay _|exact yZ _ _ _ _| exact qE _|(refine aC ?_ (fun _=>?_))|(dsimp only;done)| split| dsimp only)
theorem rV(b:Bool)(n m:Nat)(lo hi mx:Option Value):ok P T (Instr.sliceBounds b n m lo hi mx):=by
 unfold Instr.sliceBounds
 repeat' (first| exact ay _|exact aA _| exact Fz _ _ _|(refine aC ?_ (fun _=>?_))|(dsimp only;done)| split| dsimp only)
theorem RX(v:Value):ok P T (asAddr v):=by
 unfold asAddr
 repeat' (first| exact ay _|exact aA _|exact bF _|(dsimp only;done)| split| dsimp only)
theorem ok_slice(t:TypeId)(x:Value)(lo hi mx:Option Value):ok P T (Instr.slice t x lo hi mx):=by
 unfold Instr.slice
 repeat' (first| exact ay _|exact aA _| exact aK _|exact bM _| exact rV _ _ _ _ _ _|exact RX _|(refine aC ?_ (fun _=>?_))|(dsimp only;done)| split| dsimp only)
theorem OL(t:TypeId)(x:Value)(lo hi mx:Option Value):ok P T (Instr.sliceAt t x lo hi mx):=by
 unfold Instr.sliceAt
 repeat' (first| exact ay _| exact aK _|exact bM _| exact rV _ _ _ _ _ _|exact lD _|exact ok_slice _ _ _ _ _|(refine aC ?_ (fun _=>?_))|(dsimp only;done)| split| dsimp only)
theorem Pp(t:TypeId)(x:Value):ok P T (Instr.arrayAt t x):=by
 unfold Instr.arrayAt
 repeat' (first| exact ay _|exact aA _|exact bF _| exact aK _|(refine aC ?_ (fun _=>?_))|(dsimp only;done)| split| dsimp only)
theorem XO(t:TypeId)(x:Value)(f:Nat):ok P T (Instr.field t x f):=by
 unfold Instr.field
 repeat' (first| exact aA _| exact aK _|exact WY _|exact wI _ _ _|(refine aC ?_ (fun _=>?_))|(dsimp only;done)| split| dsimp only)
theorem YN(t:TypeId)(x i:Value):ok P T (Instr.index t x i):=by
 unfold Instr.index
 repeat' (first| exact ay _|exact aA _|exact yZ _ _ _ _| exact aK _|exact bM _|exact qE _|exact wI _ _ _|(refine aC ?_ (fun _=>?_))|(dsimp only;done)| split| dsimp only)
theorem Jq(t:TypeId)(n c:Value):ok P T (Instr.makeSlice t n c):=by
 unfold Instr.makeSlice
 repeat' (first| exact ay _|exact aA _|exact bF _| exact aK _|exact bM _|exact iJ _|exact dN _|exact sF _| exact kI _ _|exact dU _|exact vP _|(refine aC ?_ (fun _=>?_))|(dsimp only;done)| split| dsimp only)
theorem Ox(x:Value)(i:Nat):ok P T (Instr.extract x i):=by
 unfold Instr.extract
 repeat' (first| exact ay _|exact aA _|(dsimp only;done)| split| dsimp only)
theorem La(o:BinOp)(k:IntKind)(x y:Int):ok P T (Op.intArith o k x y):=by
 unfold Op.intArith
 repeat' (first| exact ay _|exact aA _|(dsimp only;done)| split| dsimp only)
theorem Sj(o:BinOp)(x y:Int):ok P T (Op.intCmp o x y):=by
 unfold Op.intCmp
 repeat' (first| exact ay _|exact aA _|(dsimp only;done)| split| dsimp only)
theorem P6(o:BinOp)(k:IntKind)(x y:Int):ok P T (Op.intBits o k x y):=by
 unfold Op.intBits
 repeat' (first| exact ay _|exact aA _|(dsimp only;done)| split| dsimp only)
theorem Si(o:BinOp)(k:IntKind)(x y:Int):ok P T (Op.intDiv o k x y):=by
 unfold Op.intDiv
 repeat' (first| exact ay _|exact aA _|exact bF _|(dsimp only;done)| split| dsimp only)
theorem Zf(o:BinOp)(k:IntKind)(x:Int)(k2:IntKind)(y:Int):ok P T (Op.shift o k x k2 y):=by
 unfold Op.shift
 repeat' (first| exact ay _|exact aA _|exact bF _|(dsimp only;done)| split| dsimp only)
theorem Ac(o:BinOp)(x y:ByteArray):ok P T (Op.stringOp o x y):=by
 unfold Op.stringOp
 repeat' (first| exact ay _|exact aA _|exact bH _|(dsimp only;done)| split| dsimp only)
theorem Y0(o:UnOp)(x:Value):ok P T (Op.unary o x):=by
 unfold Op.unary
 repeat' (first| exact ay _|exact aA _|exact bH _|(dsimp only;done)| split| dsimp only)
theorem ac6(ts:Array TypeId)(t:TypeId)(xs:Array Value):ok P T (Builtin.len_ ts t xs):=by
 unfold Builtin.len_
 repeat' (first| exact ay _|exact aA _| exact aK _| exact oW _|(refine aC ?_ (fun _=>?_))|(dsimp only;done)| split| dsimp only)
theorem LZ(x:Value):ok P T (Builtin.lenOf x):=by
 unfold Builtin.lenOf
 repeat' (first| exact ay _|exact aA _|(dsimp only;done)| split| dsimp only)
theorem oI(n m:Nat)(x:Value):ok P T (Builtin.firstCells n m x):=by
 unfold Builtin.firstCells
 repeat' (first| exact ay _|exact aA _| exact mG _ _|(dsimp only;done)| split| dsimp only)
theorem Fe(a:Addr)(n:Nat):ok P T (Builtin.holdsCells a n):=by
 unfold Builtin.holdsCells
 repeat' (first| exact ay _| exact dP _|(refine aC ?_ (fun _=>?_))|(dsimp only;done)| split| dsimp only)
theorem KF(a b c:Nat)(o:Option Addr)(x:Value):ok P T (Builtin.mayShare a b c o x):=by
 unfold Builtin.mayShare
 repeat' (first| exact ay _| exact zx _|exact Fe _ _|(refine aC ?_ (fun _=>?_))|(dsimp only;done)| split| dsimp only)
theorem bq{α:Type}{C:α->Prop}{c:Prop}[Decidable c]{a b:Sem α}(ha:ok P C a)(hb:ok P C b):ok P C (if c then a else b):=by
 by_cases h:c
 .rw[if_pos h];exact ha
 .rw[if_neg h];exact hb
theorem KN(k:IntKind)(n:Int):ok P T (Conv.intToInt k n):=by
 unfold Conv.intToInt
 repeat' (first| exact ay _|(dsimp only;done)| split| dsimp only)
end
end Cc
end
section
open Go.Conc
namespace Cc
variable {P:Program}
theorem Uq(ts:Array TypeId)(t:TypeId)(xs:Array Value):ok P T (Builtin.append_ ts t xs):=by
 unfold Builtin.append_;generalize ts[0]? = o0;generalize xs[0]? = o1;generalize xs[1]? = o2;generalize ts[1]? = o3
 cases o0 with
 | none=>exact aA _
 | some sType =>
  cases o1 with
  | none=>exact aA _
  | some s =>
   cases o2 with
   | none=>exact aA _
   | some x =>
    refine aC (aK _) fun d=>?_
    cases d <;> first|exact aA _|skip
    rename_i elem
    cases s <;> first|exact aA _|skip
    rename_i base sLen sCap
    refine aC (bM _) fun size=>?_
    extract_lets -underBinder jp
    have hj:∀ z,ok P T (jp z):=by
     intro z;simp -zeta only[jp]
     extract_lets -underBinder jn
     have hn:∀ n,ok P T (jn n):=by
      intro n;simp -zeta only[jn]
      extract_lets -underBinder app need
      have happ:ok P T app:=by
       simp only[app];refine bq (oI _ _ _) (bq (ay _) (aC (iJ _) fun _=>ay _))
      clear_value app need
      refine bq (aC happ fun new=>?_) (aC (dN _) fun ti=>?_)
      .extract_lets -underBinder j1
       split
       .exact aC (iV _ _ _) fun _=>ay _
       .exact ay _
      .extract_lets -underBinder j1
       have h1:∀ u,ok P T (j1 u):=by
        intro u;simp -zeta only[j1];refine aC (dN _) fun ti2=>?_
        extract_lets -underBinder j2
        have h2:∀ u,ok P T (j2 u):=by
         intro u;simp only[j2];exact aC (dU _) fun _=>aC (dN _) fun _=>aC (vP _) fun _=>aC (oI _ _ _) fun _=>aC happ fun _=>aC (iJ _) fun _=>aC (kI _ _) fun _=>ay _
        clear_value j2
        refine bq (aC (bq (bF _) (aC (KF _ _ _ _ _) fun b=>?_)) fun _=>h2 _) (h2 _)
        extract_lets -underBinder j3
        exact bq (aC uR fun _=>bH _) (bH _)
       clear_value j1
       exact bq (aC (bF _) fun _=>h1 _) (h1 _)
     clear_value jn
     refine bq (aC (sF _) fun l=>?_) (aC (LZ _) fun n=>hn n)
     extract_lets -underBinder l2 j3
     have h3:∀ u,ok P T (j3 u):=by
      intro u;simp -zeta only[j3];refine aC (dN _) fun ti=>?_
      extract_lets -underBinder j4
      have h4:∀ u,ok P T (j4 u):=fun u=>aC (ay _) fun n=>hn n
      clear_value j4
      exact bq (aC (dU _) fun _=>aC (bF _) fun _=>h4 _) (h4 _)
     clear_value j3
     exact bq (aC (bF _) fun _=>h3 _) (h3 _)
    clear_value jp
    cases o3 with
    | none=>exact aC (ay _) fun z=>hj z
    | some xt=>exact aC (aK _) fun _=>aC (ay _) fun z=>hj z
end Cc
end
section
open Go.Conc
namespace Cc
variable {P:Program}
theorem zH{α β:Type}{f:α->β->Sem (ForInStep β)}(h:∀ a s,ok P T (f a s)):∀ (l:List α)(b:β),ok P T (forIn l b f:Sem β)
 | [],b=>by rw[qbL];exact ay _
 | a::l,b=>by
  rw[qbn];refine aC (h a b) fun s=>?_
  cases s with
  | done b=>exact ay _
  | yield b=>exact zH h l b
theorem tC(r:Nat):ok P T (viewAt r):=by
 unfold viewAt
 repeat' (first|(with_reducible first|refine aC ?_ (fun _=>?_)|refine bq ?_ ?_|exact ay _|exact dP _|exact oW _)| split| dsimp only)
theorem zY(r:Nat):ok P T (numberAt r):=by
 unfold numberAt
 repeat' (first|(with_reducible first|refine aC ?_ (fun _=>?_)|refine bq ?_ ?_|exact ay _|exact dP _|exact oW _)| split| dsimp only)
theorem mg(a:Addr):ok P T (behindNumber a):=by
 unfold behindNumber
 repeat' (first|(with_reducible first|refine aC ?_ (fun _=>?_)|exact ay _|exact zY _)| split| dsimp only)
theorem Hl(a:Addr):ok P T (noView a):=by
 unfold noView
 repeat' (first|(with_reducible first|refine aC ?_ (fun _=>?_)|refine bq ?_ ?_|exact ay _|exact bH _|exact tC _)| split| dsimp only)
theorem Ii(a:Addr):ok P T (stringish a):=by
 unfold stringish
 repeat' (first|(with_reducible first|refine aC ?_ (fun _=>?_)|refine bq ?_ ?_|exact ay _|exact dP _|exact zx _)| split| dsimp only)
theorem Mh(a b:Addr):ok P T (mayBeOne a b):=by
 unfold mayBeOne
 repeat' (first|(with_reducible first|refine aC ?_ (fun _=>?_)|exact ay _|exact dP _|exact Ii _)| split| dsimp only)
theorem Ar(a b:Addr):ok P T (sameAddr a b):=by
 unfold sameAddr
 repeat' (first|(with_reducible first|refine aC ?_ (fun _=>?_)|refine bq ?_ ?_|exact ay _|exact bH _|exact dU _|exact zx _|exact Hl _|exact Mh _ _)| split| dsimp only)
theorem EC(a b:Option Addr):ok P T (samePointer a b):=by
 unfold samePointer
 repeat' (first|(with_reducible first|exact ay _|exact Ar _ _)| split| dsimp only)
theorem uj(a:Addr):ok P T (byteOf a):=by
 unfold byteOf
 repeat' (first|(with_reducible first|refine aC ?_ (fun _=>?_)|refine bq ?_ ?_|exact ay _|exact aA _|exact bO|exact dP _|exact Hl _)| split| dsimp only)
theorem xB(a b:Addr):ok P T (Op.twoPlaces a b):=by
 unfold Op.twoPlaces
 repeat' (first|(with_reducible first|refine aC ?_ (fun _=>?_)|refine bq ?_ ?_|exact ay _|exact bH _|exact bO|exact uj _)| split| dsimp only)
theorem Pn(k:IntKind)(a b:Addr):ok P T (Op.addrSub k a b):=by
 unfold Op.addrSub
 repeat' (first|(with_reducible first|refine aC ?_ (fun _=>?_)|exact ay _|exact xB _ _)| split| dsimp only)
theorem NI(o:BinOp)(a b:Addr):ok P T (Op.addrCmp o a b):=by
 unfold Op.addrCmp
 repeat' (first|(with_reducible first|refine aC ?_ (fun _=>?_)|exact ay _|exact bH _|exact xB _ _)| split| dsimp only)
theorem PG(k:IntKind)(a:Addr)(n:Int):ok P T (Op.addrMod k a n):=by
 unfold Op.addrMod
 repeat' (first|(with_reducible first|refine aC ?_ (fun _=>?_)|refine bq ?_ ?_|exact ay _|exact bH _|exact dN _|exact dP _|exact uj _)| split| dsimp only)
theorem Nf(t:TypeId):ok P T (typeStr t):=by
 unfold typeStr
 repeat' (first|(with_reducible first|refine aC ?_ (fun _=>?_)|refine bq ?_ ?_|exact ay _|exact bH _|exact dN _)| split| dsimp only)
theorem Aq(a:Addr)(b:Bool):ok P T (asNumber a b):=by
 unfold asNumber
 repeat' (first|(with_reducible first|refine aC ?_ (fun _=>?_)|exact ay _|exact kP _)| split| dsimp only)
theorem uV(o:BinOp)(k:FloatKind)(x y:Nat):ok P T (Op.floatArith o k x y):=by
 unfold Op.floatArith
 repeat' (first|(with_reducible first|refine aC ?_ (fun _=>?_)|exact ay _|exact aA _|exact dU _)| split| dsimp only)
theorem Ay(o:BinOp)(k:FloatKind)(x y:Nat):ok P T (Op.floatCmp o k x y):=by
 unfold Op.floatCmp
 repeat' (first|(with_reducible first|exact ay _|exact aA _)| split| dsimp only)
theorem jd(k:FloatKind)(x:Nat)(d:FloatKind):ok P T (Conv.floatToFloat k x d):=by
 unfold Conv.floatToFloat
 repeat' (first|(with_reducible first|refine aC ?_ (fun _=>?_)|refine bq ?_ ?_|exact ay _|exact dU _)| split| dsimp only)
theorem oQ(o:BinOp)(k:FloatKind)(x y:Nat):ok P T (Op.Complex.arith o k x y):=by
 unfold Op.Complex.arith
 repeat' (first|(with_reducible first|refine aC ?_ (fun _=>?_)|exact ay _|exact aA _|exact uV _ _ _ _)| split| dsimp only)
theorem QY(o:BinOp)(k:FloatKind)(x y:Nat):ok P T (Op.Complex.cmp o k x y):=by
 unfold Op.Complex.cmp
 repeat' (first|(with_reducible first|refine aC ?_ (fun _=>?_)|exact zJ _|exact Ay _ _ _ _)| split| dsimp only)
theorem Y5(k:FloatKind)(x:Nat)(d:FloatKind):ok P T (Op.Complex.conv k x d):=by
 unfold Op.Complex.conv
 repeat' (first|(with_reducible first|refine aC ?_ (fun _=>?_)|refine bq ?_ ?_|exact ay _|exact aA _|exact jd _ _ _)| split| dsimp only)
theorem IZ(x y:Nat):ok P T (Op.Complex.add x y):=oQ _ _ _ _
theorem Hu(x y:Nat):ok P T (Op.Complex.sub x y):=oQ _ _ _ _
theorem Hq(x y:Nat):ok P T (Op.Complex.mul x y):=oQ _ _ _ _
theorem aaB(x y:Nat):ok P T (Op.Complex.quo x y):=oQ _ _ _ _
theorem J3(a b c d:Nat):ok P T (Op.Complex.product a b c d):=by
 unfold Op.Complex.product
 repeat' (first|(with_reducible first|refine aC ?_ (fun _=>?_)|exact ay _|exact IZ _ _|exact Hu _ _|exact Hq _ _)| split| dsimp only)
theorem FI(s a b c d:Nat):ok P T (Op.Complex.corrected s a b c d):=by
 unfold Op.Complex.corrected
 repeat' (first|(with_reducible first|refine aC ?_ (fun _=>?_)|exact ay _|exact IZ _ _|exact Hu _ _|exact Hq _ _)| split| dsimp only)
theorem Iu(a b c d:Nat):ok P T (Op.Complex.quotient a b c d):=by
 unfold Op.Complex.quotient
 repeat' (first|(with_reducible first|refine aC ?_ (fun _=>?_)|refine bq ?_ ?_|exact ay _|exact QY _ _ _ _|exact IZ _ _|exact Hu _ _|exact Hq _ _|exact aaB _ _|exact FI _ _ _ _ _)| split| dsimp only)
theorem Iz(o:BinOp)(k:FloatKind)(a b c d:Nat):ok P T (Op.complexOp o k a b c d):=by
 unfold Op.complexOp
 repeat' (first|(with_reducible first|refine aC ?_ (fun _=>?_)|refine bq ?_ ?_|exact ay _|exact aA _|exact oQ _ _ _ _|exact QY _ _ _ _|exact Y5 _ _ _|exact J3 _ _ _ _|exact Iu _ _ _ _)| split| dsimp only)
theorem xG(ts:Array TypeId)(t:TypeId)(x y:Value):ok P T (Builtin.unsafeAdd_ ts t #[x,y]):=by
 unfold Builtin.unsafeAdd_
 cases x <;> first|exact aA _|skip
 refine aC (sF y) (fun n=>?_)
 repeat' (first|(with_reducible first|refine aC ?_ (fun _=>?_)|refine bq ?_ ?_|exact ay _|exact aA _|exact bH _|exact sF _|exact bO|exact dP _|exact tC _)| split| dsimp only)
theorem Du(t:TypeId)(x y:Value):ok P T (movedNumber t x y):=by
 unfold movedNumber
 repeat' (first|(with_reducible first|refine aC ?_ (fun _=>?_)|refine bq ?_ ?_|exact ay _|exact bH _|exact aK _|exact mg _|exact Aq _ _|exact xG _ _ _ _)| split| dsimp only)
theorem AU(t:TypeId)(x y:Value):ok P T (movedPointer t x y):=by
 unfold movedPointer
 repeat' (first|(with_reducible first|refine aC ?_ (fun _=>?_)|refine bq ?_ ?_|exact bH _|exact zY _|exact xG _ _ _ _)| split| dsimp only)
theorem uf{α β:Type}{f:α->β->Sem (ForInStep β)}(h:∀ a s,ok P T (f a s))(l:Array α)(b:β):ok P T (forIn l b f:Sem β):=by
 rw[<-qbi];exact zH h _ _
theorem Gw{β:Type}{f:Nat->β->Sem (ForInStep β)}(h:∀ a s,ok P T (f a s))(n:Nat)(b:β):ok P T (forIn [0:n] b f:Sem β):=by
 rw[qbw];exact zH h _ _
theorem Fv(k:FloatKind)(n:Int):ok P T (Conv.intToFloat k n):=by
 unfold Conv.intToFloat
 repeat' (first|(with_reducible exact ay _)| split| dsimp only)
end Cc
end
section
open Go.Conc
namespace Cc
variable {P:Program}
theorem qd(a:Addr):ok P T (markStringish a):=by
 unfold markStringish;refine aC (dP _) fun o=>?_
 split
 .exact F4 _ _
 .exact ay _
theorem ED:∀ (d:Nat)(t:TypeId)(x y:Value),ok P T (Op.equalIn d t x y)
 | 0,t,x,y=>bH _
 | d+1,t,x,y=>by
  have ih:=ED d;unfold Op.equalIn
  repeat' (first|(with_reducible first|refine aC ?_ (fun _=>?_)|refine bq ?_ ?_|exact ay _|exact aA _|exact bH _|exact bF _|exact aK _|exact bM _|exact dN _|exact wI _ _ _|exact dU _|exact bO|exact mg _|exact Ar _ _|exact EC _ _|exact uj _|exact Nf _|refine uf (fun _ _=>?_) _ _|refine Gw (fun _ _=>?_) _ _|exact ih _ _ _)| split| dsimp only)
theorem wN:∀ (d:Nat)(t:TypeId)(x y:Value),ok P T (Op.eqGuardIn d t x y)
 | 0,t,x,y=>bH _
 | d+1,t,x,y=>by
  have ih:=wN d;unfold Op.eqGuardIn
  repeat' (first|(with_reducible first|refine aC ?_ (fun _=>?_)|refine bq ?_ ?_|exact ay _|exact bH _|exact aK _|exact bM _|exact wI _ _ _|refine uf (fun _ _=>?_) _ _|refine Gw (fun _ _=>?_) _ _|exact ih _ _ _)| split| dsimp only)
theorem Xo(t:TypeId)(x y:Value):ok P T (Op.equal t x y):=ED _ t x y
theorem Oh(o:BinOp)(t:TypeId)(x y:Operand)(a b:Value):ok P T (eqGuard o t x y a b):=by
 unfold eqGuard
 repeat' (first|(with_reducible first|refine aC ?_ (fun _=>?_)|refine bq ?_ ?_|exact ay _|exact bH _|exact bO|exact wN _ _ _ _)| split| dsimp only)
theorem YM(o:BinOp)(t:TypeId)(x y:Value):ok P T (binOp o t x y):=by
 unfold binOp
 repeat' (first|(with_reducible first|refine aC ?_ (fun _=>?_)|refine bq ?_ ?_|exact ay _|exact aA _|exact bH _|exact aK _|exact mg _|exact Pn _ _ _|exact NI _ _ _|exact PG _ _ _|exact La _ _ _ _|exact Sj _ _ _|exact P6 _ _ _ _|exact Si _ _ _ _|exact Zf _ _ _ _ _|exact Ac _ _ _|exact uV _ _ _ _|exact Ay _ _ _ _|exact Iz _ _ _ _ _ _|exact Du _ _ _|exact AU _ _ _|exact Xo _ _ _)| split| dsimp only)
theorem aaT(x y:Value):ok P T (Builtin.min2 x y):=by
 unfold Builtin.min2
 repeat' (first|(with_reducible first|refine aC ?_ (fun _=>?_)|exact ay _|exact aA _|exact bH _|exact zJ _|exact dU _|exact Ac _ _ _)| split| dsimp only)
theorem Gq{α β:Type}{f:β->α->Sem β}(h:∀ s a,ok P T (f s a)):∀ (l:List α)(b:β),ok P T (l.foldlM f b)
 | [],b=>ay _
 | a::l,b=>aC (h b a) fun s=>Gq h l s
theorem acp(ts:Array TypeId)(t:TypeId)(xs:Array Value):ok P T (Builtin.min_ ts t xs):=by
 unfold Builtin.min_;split
 .exact aA _
 .exact Gq (fun s a=>aaT s a) _ _
theorem yY(e:TypeId)(s:ByteArray):ok P T (Conv.stringToBytes e s):=by
 unfold Conv.stringToBytes
 repeat' (first|(with_reducible first|refine aC ?_ (fun _=>?_)|exact ay _|exact kI _ _|exact dU _|exact qd _)| split| dsimp only)
theorem yJ(x:Value):ok P T (Conv.bytesToString x):=by
 unfold Conv.bytesToString
 repeat' (first|(with_reducible first|refine aC ?_ (fun _=>?_)|exact ay _|exact aA _|exact mG _ _|refine uf (fun _ _=>?_) _ _)| split| dsimp only)
end Cc
end
section
open Go.Conc
namespace Cc
section
variable {P:Program}
theorem Ue(a:Addr)(c b:Nat):ok P T (partAt a c b):=by
 unfold partAt
 repeat' (first|(with_reducible first|refine aC ?_ (fun _=>?_)|exact ay _|exact uj _)| split| dsimp only)
theorem EY(a:Addr)(f:Field):ok P T (fieldPlace a f):=by
 unfold fieldPlace;refine aC (bM _) fun _=>bq (Ue _ _ _) (ay _)
theorem NK(t:TypeId)(x:Value)(f:Nat):ok P T (Instr.fieldAt t x f):=by
 unfold Instr.fieldAt;refine aC (aK _) fun d=>?_
 split
 .split
  .exact aC (lD _) fun _=>aC (EY _ _) fun _=>ay _
  .exact aA _
 .exact aA _
theorem rZ(a:Addr)(u:TypeId)(n:Nat):ok P T (variablesAt a u n):=by
 unfold variablesAt
 repeat' (first|(with_reducible first|refine aC ?_ (fun _=>?_)|exact ay _|exact bO|exact dP _)| split| dsimp only)
theorem Y6{α β:Type}{f:α->Sem β}(h:∀ a,ok P T (f a))(l:Array α):ok P T (l.mapM f):=by
 rw[qaP];refine NG ?_
 induction l.toList with
 | nil=>rw[qbs];exact ay _
 | cons a l ih=>rw[qbj];exact aC (h a) fun _=>aC ih fun _=>ay _
theorem Mc(t:TypeId)(ps:Array (Nat×Value)):ok P T (Instr.build t ps):=by
 unfold Instr.build;refine aC (iJ _) fun _=>aC (aK _) fun d=>?_
 split
 .refine aC (Y6 (fun _=>aC (bM _) fun _=>ay _) _) fun _=>?_
  split
  .exact ay _
  .exact aA _
 .refine aC (bM _) fun _=>?_
  split
  .exact ay _
  .exact aA _
 .exact aA _
theorem zK(t:TypeId)(x:Value):ok P T (Instr.makeInterface t x):=by
 unfold Instr.makeInterface
 repeat' (first|(with_reducible first|refine aC ?_ (fun _=>?_)|exact ay _|exact aA _|exact aK _)| split| dsimp only)
theorem acC(ts:Array TypeId)(t:TypeId)(xs:Array Value):ok P T (Builtin.cap_ ts t xs):=by
 unfold Builtin.cap_
 repeat' (first|(with_reducible first|refine aC ?_ (fun _=>?_)|exact ay _|exact aA _|exact aK _|exact oW _)| split| dsimp only)
theorem aa3(ts:Array TypeId)(t:TypeId)(xs:Array Value):ok P T (Builtin.copy_ ts t xs):=by
 unfold Builtin.copy_
 repeat' (first|(with_reducible first|refine aC ?_ (fun _=>?_)|exact ay _|exact aA _|exact aK _|exact bM _|exact LZ _|exact oI _ _ _|exact iV _ _ _)| split| dsimp only)
theorem acY(ts:Array TypeId)(t:TypeId)(xs:Array Value):ok P T (Builtin.unsafeSliceData_ ts t xs):=by
 unfold Builtin.unsafeSliceData_;obtain⟨l⟩:=xs;rcases l with _|⟨x,_|⟨y,l⟩⟩
 .exact aA _
 .cases x <;> first|exact aA _|skip
  rename_i a n c
  cases a with
  | none=>exact ay _
  | some a =>
   show ok P T (if c≠0 then _ else _)
   repeat' (first|(with_reducible first|refine aC ?_ (fun _=>?_)|refine bq ?_ ?_|exact ay _|exact aA _|exact um _|exact tC _|exact kP _)| split| dsimp only)
 .exact aA _
theorem wS:∀ (n:Nat)(a:Addr)(acc:ByteArray),ok P T (loadBytes a acc n)
 | 0,a,acc=>by unfold loadBytes;exact ay _
 | n+1,a,acc=>by
  unfold loadBytes;refine aC (Bf _) fun v=>?_
  split
  .exact wS n _ _
  .exact aA _
theorem abn(ts:Array TypeId)(t:TypeId)(xs:Array Value):ok P T (Builtin.unsafeString_ ts t xs):=by
 unfold Builtin.unsafeString_;obtain⟨l⟩:=xs;rcases l with _|⟨x,_|⟨y,_|⟨z,l⟩⟩⟩
 .exact aA _
 .cases x <;> exact aA _
 .cases x <;> first|exact aA _|skip
  rename_i p
  refine aC (sF _) fun n=>?_
  split
  .dsimp only
   have h2:∀ (p:Option Addr)(pt:TypeId),ok P T (match p with
     | none=>if n=0 then(pure (.string .empty):Sem Value) else runtimePanic (.error "unsafe.String: ptr is nil and len is not zero")
     | some a=>if n=0 then pure (.string .empty) else do
       if <-variablesAt a (<- elemOf pt) n.toNat then do
        let s <-loadBytes a .empty n.toNat
        freeze a n.toNat
        pure (.string s)
       else unsupported (.unsafePointer "String: not so many bytes at ptr")):=fun p pt=>by
    cases p with
    | none=>exact bq (ay _) (bF _)
    | some a=>exact bq (ay _) (aC (um _) fun _=>aC (rZ _ _ _) fun _=>bq (aC (wS _ _ _) fun _=>aC (F4 _ _) fun _=>ay _) (bH _))
   refine bq (aC (bF _) fun _=>?_) ?_
   .exact bq (aC (bH _) fun _=>h2 _ _) (h2 _ _)
   .exact bq (aC (bH _) fun _=>h2 _ _) (h2 _ _)
  .exact aA _
 .cases x <;> exact aA _
theorem OJ(r:Nat):ok P T (cellsIn r):=by
 unfold cellsIn
 repeat' (first|(with_reducible first|refine aC ?_ (fun _=>?_)|exact ay _|exact dP _|exact oW _)| split| dsimp only)
theorem Gc(a:Addr):ok P T (Conv.seenAt a):=by
 unfold Conv.seenAt
 repeat' (first|(with_reducible first|refine aC ?_ (fun _=>?_)|refine bq ?_ ?_|exact ay _|exact bH _|exact bO|exact dP _|exact tC _)| split| dsimp only)
theorem wK(s d:TypeId)(x:Value):ok P T (Conv.unsafePointer s d x):=by
 unfold Conv.unsafePointer;refine aC (aK _) fun ds=>aC (aK _) fun dd=>?_
 split
 .exact ay _
 .refine aC (Gc _) fun s=>aC (OJ _) fun c=>aC (bM _) fun n=>?_
  repeat' (first|(with_reducible first|refine aC ?_ (fun _=>?_)|refine bq ?_ ?_|exact ay _|exact aA _|exact bH _|exact aK _|exact bM _|exact bO|exact dP _|exact kP _)| split| dsimp only)
 .exact ay _
 .refine aC (Gc _) fun s=>aC (bM _) fun n=>?_
  refine aC (rZ _ _ _) fun b=>bq (ay _) (aC (dP _) fun sh=>?_)
  dsimp only
  split
  .refine aC bO fun p=>aC bO fun q=>bq (aC (bH _) fun _=>?_) ?_
   .repeat' (first|(with_reducible first|refine aC ?_ (fun _=>?_)|refine bq ?_ ?_|exact ay _|exact aA _|exact bH _|exact aK _|exact bM _|exact bO|exact dP _|exact kP _)| split| dsimp only)
   .repeat' (first|(with_reducible first|refine aC ?_ (fun _=>?_)|refine bq ?_ ?_|exact ay _|exact aA _|exact bH _|exact aK _|exact bM _|exact bO|exact dP _|exact kP _)| split| dsimp only)
  .refine aC (bH _) fun _=>?_
   repeat' (first|(with_reducible first|refine aC ?_ (fun _=>?_)|refine bq ?_ ?_|exact ay _|exact aA _|exact bH _|exact aK _|exact bM _|exact bO|exact dP _|exact kP _)| split| dsimp only)
 .exact ay _
 .exact ay _
 .exact Aq _ _
 .exact bH _
 .exact bH _
 .exact bH _
 .exact aA _
theorem jY:∀ (l:List FieldStep)(t:TypeId)(x:Option Value),ok P T (followBlind l t x)
 | [],t,x=>by unfold followBlind;exact ay _
 | s::l,t,x=>by
  unfold followBlind;refine aC (aK _) fun d=>?_
  split
  .split
   .split
    .exact ay _
    .exact jY l _ _
    .exact aA _
    .exact ay _
    .exact aC (wI _ _ _) fun _=>jY l _ _
    .exact aA _
    .exact jY l _ _
   .exact aA _
  .exact aA _
theorem Av:∀ (n:Nat)(t:TypeId)(v:Value)(name:String),ok P T (nilAhead n t v name)
 | 0,t,v,name=>by unfold nilAhead;exact ay _
 | n+1,t,v,name=>by
  unfold nilAhead;refine aC (dN _) fun i=>?_
  split
  .refine aC (jY _ _ _) fun r=>?_
   split
   .exact ay _
   .split
    .exact Av n _ _ _
    .exact ay _
    .exact aA _
    .exact ay _
    .exact ay _
    .refine aC (aK _) fun _=>?_
     split <;> exact ay _
  .exact aA _
theorem Fq(ps rs:Array TypeId)(xs:Array Value):ok P T (Extern.BytealgMakeNoZero.makeNoZero ps rs xs):=by
 unfold Extern.BytealgMakeNoZero.makeNoZero;obtain⟨l⟩:=xs
 cases rs[0]? with
 | none =>
  rcases l with _|⟨x,_|⟨y,l⟩⟩
  .exact aA _
  .cases x <;> first|exact aA _|skip
   rename_i k n
   cases k <;> exact aA _
  .exact aA _
 | some t =>
  rcases l with _|⟨x,_|⟨y,l⟩⟩
  .exact aA _
  .cases x <;> first|exact aA _|skip
   rename_i k n
   cases k <;> first|exact aA _|skip
   refine aC (aK _) fun d=>?_
   repeat' (first|(with_reducible first|refine aC ?_ (fun _=>?_)|refine bq ?_ ?_|exact ay _|exact aA _|exact bF _|exact aK _|exact kI _ _|exact dU _|exact vP _)| split| dsimp only)
  .exact aA _
theorem MC(xs:Array Value):ok P T (Extern.AbiNoEscape.same xs):=by
 unfold Extern.AbiNoEscape.same;obtain⟨l⟩:=xs;rcases l with _|⟨x,_|⟨y,l⟩⟩
 .exact aA _
 .exact ay _
 .exact aA _
theorem vg:∀ (n:Nat)(a:Addr)(acc:ByteArray),ok P T (Extern.Bytes.loadBytes a n acc)
 | 0,a,acc=>by unfold Extern.Bytes.loadBytes;exact ay _
 | n+1,a,acc=>by
  unfold Extern.Bytes.loadBytes;refine aC (Bf _) fun v=>?_
  split
  .exact vg n _ _
  .exact aA _
theorem K9(v:Value):ok P T (Extern.Bytes.bytesOf v):=by
 unfold Extern.Bytes.bytesOf;split
 .exact ay _
 .exact ay _
 .exact vg _ _ _
 .exact aA _
theorem Iy(xs:Array Value):ok P T (Extern.BytealgIndexByte.indexByte xs):=by
 unfold Extern.BytealgIndexByte.indexByte;obtain⟨l⟩:=xs;rcases l with _|⟨x,_|⟨y,_|⟨z,l⟩⟩⟩
 .exact aA _
 .exact aA _
 .refine aC (K9 _) fun _=>aC ?_ fun _=>?_
  .unfold Extern.Bytes.asByte
   repeat' (first|(with_reducible first|refine aC ?_ (fun _=>?_)|exact ay _|exact aA _)| split| dsimp only)
  .repeat' (first|(with_reducible first|refine aC ?_ (fun _=>?_)|exact ay _|exact aA _)| split| dsimp only)
 .exact aA _
end
end Cc
end
section
open Go.Conc
namespace Cc
def oD(P:Program)(L:List FuncId)(f:FuncId):Bool:=L.contains f&&(match P.funcs[f]? with|some fn=>fn.name != "runtime.NumGoroutine"&&fn.body.isSome|none=>false)
def IG:Option TypeDesc->Bool
 | some _=>true
 | none=>false
def yI(P:Program)(L:List FuncId)(f:FuncId):Bool:=L.contains f&&(match P.funcs[f]? with|some fn=>fn.body.isNone|none=>false)
def bT(P:Program)(L:List FuncId):Op->Bool
 | .move _|.assign _|.pick ..|.alloc _|.box ..|.buildSlice ..|.load ..|.store ..|.binOp ..|.unOp ..|.makeSlice ..|.slice ..|.indexAddr ..|.index ..|.extract ..|.sliceToArrayPointer ..|.field ..|.build ..|.fieldAddr ..|.nilCheck _|.makeInterface ..=>true
 | .convert s d _=>IG (P.underlying s)&&IG (P.underlying d)
 | .call c=>match c.callee with
  | .builtin .len|.builtin .append|.builtin .min|.builtin .cap|.builtin .copy|.builtin .unsafeString|.builtin .unsafeSliceData=>true
  | .value (.func f)=>oD P L f||yI P L f
  | _=>false
 | _=>false
def Wy:Op->Bool
 | .panic _=>true
 | _=>false
def nI(P:Program)(L:List FuncId):Next->Prop
 | .value _|.skip=>True
 | .enter f _=>oD P L f=true
 | _=>False
def J8(P:Program)(L:List FuncId):Prop:=∀ f,yI P L f=true->∀ args,ok P (nI P L) (callFunc f args)
theorem zF(P:Program):J8 P []:=fun f h=>by unfold yI at h;simp at h
section
variable {P:Program}{L:List FuncId}
theorem J6{α:Type}{D:α->Prop}{t:TypeId}{d:TypeDesc}{f:TypeDesc->Sem α}(h:P.underlying t=some d)(hf:ok P D (f d)):ok P D (underlying t >>= f):=by
 show ok P D ((underlying t).bind f);have:ok P (fun x=>x=d) (underlying t):=by
  show ok P (fun x=>x=d) (program >>= fun p=>_);show ok P (fun x=>x=d) (match P.underlying t with|some d=>pure d|none=>stuck "no such type");rw[h];exact rfl
 exact d9 (fun a ha=>by subst ha;exact hf) this
theorem lg{s:Sem Value}(h:ok P T s):ok P (nI P L) (do pure (.value (<- s))):=by
 show ok P (nI P L) (s.bind fun a=>.pure (.value a));exact d9 (P:=P) (C:=T) (D:=nI P L) (f:=fun a=>Sem.pure (Next.value a)) (fun a _=>(trivial:nI P L (.value a))) h
theorem agk{s:Sem Unit}(h:ok P T s):ok P (nI P L) (do s;pure .skip):=by
 show ok P (nI P L) (s.bind fun _=>.pure .skip);exact d9 (P:=P) (C:=T) (D:=nI P L) (f:=fun _=>Sem.pure Next.skip) (fun a _=>(trivial:nI P L .skip)) h
theorem FH(k:FloatKind)(n:Nat)(d:IntKind):ok P T (Conv.floatToInt k n d):=by
 unfold Conv.floatToInt;dsimp only
 split
 .refine bq (ay _) (aC (dU _) fun _=>ay _)
 .exact aC (dU _) fun _=>ay _
theorem uG(k:FloatKind)(a b:Nat)(d:FloatKind):ok P T (Conv.complexToComplex k a b d):=by
 unfold Conv.complexToComplex;refine aC (jd _ _ _) fun v=>?_
 split
 .refine aC (jd _ _ _) fun v=>?_
  split
  .exact ay _
  .exact aA _
 .exact aA _
theorem zu(e:TypeId)(s:ByteArray):ok P T (Conv.stringToRunes e s):=aC (dU _) fun _=>aC (kI _ _) fun _=>ay _
theorem zP(x:Value):ok P T (Conv.runesToString x):=by
 unfold Conv.runesToString;split
 .exact ay _
 .refine aC (mG _ _) fun cs=>aC (uf (fun c s=>?_) _ _) fun _=>ay _
  split
  .exact aC (ay _) fun _=>ay _
  .exact aA _
 .exact aA _
theorem PZ{s d:TypeId}(hs:IG (P.underlying s)=true)(hd:IG (P.underlying d)=true)(x:Value):ok P T (convert s d x):=by
 unfold convert
 cases hs':P.underlying s with
 | none=>rw[hs'] at hs;cases hs
 | some ds =>
  cases hd':P.underlying d with
  | none=>rw[hd'] at hd;cases hd
  | some dd =>
   rw[hs'] at hs;rw[hd'] at hd;refine J6 hs' (J6 hd' ?_);split
   .exact KN _ _
   .exact Fv _ _
   .exact FH _ _ _
   .exact jd _ _ _
   .exact uG _ _ _ _
   .exact ay _
   .exact ay _
   .refine aC (aK _) fun u=>?_
    split
    .exact yY _ _
    .exact zu _ _
    .exact aA _
   .refine aC (aK _) fun u=>?_
    split
    .exact aC (qd _) fun _=>ay _
    .exact bH _
   .refine aC (aK _) fun u=>?_
    split
    .exact yJ _
    .exact zP _
    .exact aA _
   .exact wK _ _ _
   .exact wK _ _ _
   .exact bH _
   .exact bH _
theorem Lg{f:FuncId}(h:oD P L f=true)(args:Array Value):ok P (nI P L) (callFunc f args):=by
 have h0:=h;unfold oD at h0;rw[fE] at h0
 cases hf:P.funcs[f]? with
 | none=>rw[hf] at h0;simp at h0
 | some fn =>
  rw[hf] at h0;simp only[fE,bne_iff_ne,ne_eq] at h0;unfold callFunc;show ok P (nI P L) (match P.funcs[f]? with|none=>_|some fn=>_);rw[hf];have h1:(fn.name == "runtime.NumGoroutine")=false:=by simpa using h0.2.1
  have h2:fn.body.isNone=false:=by cases hb:fn.body with|none=>rw[hb] at h0;simp at h0|some b=>rfl
  simp only[h1,h2,jI,if_false];exact h
theorem Qe{f:FuncId}{fn:Func}{e:Array Value->Sem Value}(hf:P.funcs[f]? = some fn)(hn:(fn.name == "runtime.NumGoroutine")=false)(hb:fn.body=none)(h1:Extern.findNext fn=none)(h2:Extern.find fn=some e)(he:∀ xs,ok P T (e xs))(args:Array Value):ok P (nI P L) (callFunc f args):=by
 unfold callFunc;show ok P (nI P L) (match P.funcs[f]? with|none=>_|some fn=>_);rw[hf];dsimp only
 rw[hn,hb];simp only[jI,if_false,Option.isNone_none,if_true];refine aC (s:=mark (.extern f)) ⟨.inr ⟨f,rfl⟩,trivial⟩ fun _=>?_
 rw[h1];dsimp only
 rw[h2];exact lg (he _)
theorem Mg{v:Value}:ok P (nI P L) (match v with
  | .pointer none|.nilIface|.nilFunc=>runtimePanic .nilDeref
  | .func (.method name) first captured =>
   match (first[0]? : Option Value) with
   | some .nilIface=>runtimePanic .nilDeref
   | some (.iface t w)=>do
    if (<- nilAhead ((<- program).types.size+Made.depth) t w name) != some false then
     unsupported (.noEntry "op/nilCheck.the method's receiver behind this interface value is a nil pointer, or cannot be seen to be none, and the arguments act or may panic (ledger 612)")
    pure (.value (.func (.method name) first captured))
   | _=>pure (.value (.func (.method name) first captured))
  | x=>pure (.value x)):=by
 split
 .exact bF _
 .exact bF _
 .exact bF _
 .split
  .exact bF _
  .exact aC bO fun p=>aC (Av _ _ _ _) fun b=>bq (aC (bH _) fun _=>trivial) trivial
  .exact trivial
 .exact trivial
theorem uy{ρ:Operand->Value}{o:Oper}(hE:J8 P L)(hρ:∀ f,ρ (.func f)=.func (.func f) #[] #[])(h:bT P L o.op=true):ok P (nI P L) (execOp ρ o):=by
 unfold execOp;dsimp only
 cases ho:o.op <;> rw[ho] at h <;> first|(cases h;done)|skip
 all_goals dsimp only
 all_goals first| exact(trivial:True)| exact lg (Y1 _ _ _)| exact lg (ad4 _ _)| exact lg (E5 _ _ _)| exact lg (Uk _ _)| exact agk (PN _ _ _)| exact lg (aC (Oh _ _ _ _ _ _) fun _=>YM _ _ _ _)| exact lg (Y0 _ _)| exact lg (Jq _ _ _)| exact lg (OL _ _ _ _ _)| exact lg (Oo _ _ _)| exact lg (YN _ _ _)| exact lg (Ox _ _)| exact lg (Pp _ _)| exact lg (XO _ _ _)| exact lg (Mc _ _)| exact lg (NK _ _ _)| exact lg (zK _ _)|(unfold bT at h;rw[fE] at h;exact lg (PZ h.1 h.2 _))| skip
 .rename_i c a b
  show ok P (nI P L) ((asBool (ρ c)).bind fun t=>.pure (.value (if t=true then ρ a else ρ b)));exact d9 (P:=P) (C:=T) (D:=nI P L) (f:=fun t=>Sem.pure (Next.value (if t=true then ρ a else ρ b))) (fun t _=>(trivial:nI P L (.value (if t=true then ρ a else ρ b)))) (zJ _)
 .exact Mg
 .rename_i c
  unfold bT at h;unfold resolve;dsimp only at h ⊢
  cases hc:c.callee with
  | builtin b =>
   rw[hc] at h
   cases b <;> first|(cases h;done)|skip
   all_goals first| exact lg (Uq _ _ _)| exact lg (ac6 _ _ _)| exact lg (acp _ _ _)| exact lg (acC _ _ _)| exact lg (aa3 _ _ _)| exact lg (abn _ _ _)| exact lg (acY _ _ _)
  | invoke r m=>rw[hc] at h;cases h
  | value f =>
   rw[hc] at h
   cases f <;> first|(cases h;done)|skip
   rename_i f
   show ok P (nI P L) (Deferred.ofValue (ρ (.func f)) (c.args.map ρ) >>= fun d=>invoke d.target d.args);rw[hρ];rw[Yb] at h;rcases h with h|h
   .exact Lg h _
   .exact hE f h _
end
end Cc
end
section
open Go.Conc
namespace Cc
def gU(P:Program)(L:List FuncId):Code->Bool
 | .skip|.exit _|.label _|.goto _|.ret|.refuse _=>true
 | .region _ ops _=>ops.all fun o=>bT P L o.op||Wy o.op
 | .seq a b=>gU P L a&&gU P L b
 | .cond _ a b=>gU P L a&&gU P L b
 | .block _ a|.loop a|.scope a=>gU P L a
 | .rangeFunc ..=>false
def jl(P:Program)(L:List FuncId):Item->Bool
 | .code c|.inLoop c|.inScope c=>gU P L c
 | .inBlock _=>true
 | .inRegion ops _=>ops.all fun o=>bT P L o.op||Wy o.op
 | _=>false
structure fO(P:Program)(L:List FuncId):Prop where
 code:∀ f,oD P L f=true->∀ fn c,P.funcs[f]? = some fn->fn.body=some c->gU P L c=true
 step:∀ g,P.stepOf g=none
 ext:J8 P L
def F(fn:FuncId)(tmps:Array Value)(todo:List Item):Frame:={fn,tmps,todo,defers:=[],mode:=.run,kind:=.normal}
def R(fn:FuncId)(tmps:Array Value)(todo:List Item):Frame:={fn,tmps,todo,defers:=[],mode:=.returning,kind:=.normal}
def Items(P:Program)(L:List FuncId)(todo:List Item):Prop:=∀ x∈todo,jl P L x=true
def MQ(P:Program)(L:List FuncId)(fr:Frame):Prop:=∃ fn tmps todo,fr=F fn tmps todo/\(P.funcs[fn]?).isSome=true/\Items P L todo
def OkR(P:Program)(fr:Frame):Prop:=∃ fn tmps todo,fr=R fn tmps todo/\(P.funcs[fn]?).isSome=true
def Pan(P:Program)(fr:Frame):Prop:=(∃ ch,fr.mode=.panicking ch)/\fr.defers=[]/\(P.funcs[fr.fn]?).isSome=true
structure Ez(P:Program)(fr:Frame)(cs:List Frame)(w:World)(n:Nat)(fr':Frame)(cs':List Frame)(w':World)(es:Array Event):Prop where
 eq:∀ B τ d,(∀ i,i<n->τ (d+i)=w.tape (w.drawn+i))->stepG P true (G fr (cs++B)) (tp w τ d)=.go (G fr' (cs'++B)) (tp w' τ (d+n)) es
 drawn:w'.drawn=w.drawn+n
 tape:w'.tape=w.tape
 size:w.heap.size<=w'.heap.size
 low:∀ e∈es,Low w'.heap.size e
inductive DX(P:Program)(L:List FuncId)(fr:Frame)(cs:List Frame)(w:World):Prop
 | go (n:Nat) (fr':Frame) (cs':List Frame) (w':World) (es:Array Event) (h:Ez P fr cs w n fr' cs' w' es) (h1:MQ P L fr'\/OkR P fr') (h2:∀ c∈cs',MQ P L c)
 | panic (n:Nat) (fr':Frame) (w':World) (es:Array Event) (h:∀ B τ d,(∀ i,i<n->τ (d+i)=w.tape (w.drawn+i))->stepG P true (G fr (cs++B)) (tp w τ d)=.go (G fr' (cs++B)) (tp w' τ (d+n)) es) (h1:Pan P fr')
 | ended (n:Nat) (h:∀ B τ d,(∀ i,i<n->τ (d+i)=w.tape (w.drawn+i))->∃ o w' es,stepG P true (G fr (cs++B)) (tp w τ d)=.ended o w' es)
section
variable {P:Program}{L:List FuncId}
theorem aH{x:Item}{k:List Item}:Items P L (x::k)↔jl P L x=true/\Items P L k:=by simp[Items]
theorem jo{id:Nat}:∀ {k k':List Item},exitTo id k=some k'->Items P L k->Items P L k'
 | [],k',h,_=>by simp[exitTo] at h
 | x::k,k',h,hk=>by
  rw[aH] at hk
  cases x <;> simp only[exitTo] at h <;> first|exact jo h hk.2|skip
  split at h
  .cases h;exact hk.2
  .exact jo h hk.2
theorem nG:∀ {c:Code}{l:Nat}{r:Code},findLabel c l=some r->gU P L c=true->gU P L r=true
 | .seq a b,l,r,h,hc=>by
  simp only[gU,fE] at hc;simp only[findLabel] at h
  cases ha:findLabel a l with
  | some x=>rw[ha] at h;cases h;simp only[gU,fE];exact⟨nG ha hc.1,hc.2⟩
  | none=>rw[ha] at h;exact nG h hc.2
 | .label m,l,r,h,hc=>by
  simp only[findLabel] at h;split at h
  .cases h;rfl
  .cases h
 | .skip,_,_,h,_|.exit _,_,_,h,_|.goto _,_,_,h,_|.ret,_,_,h,_|.region ..,_,_,h,_|.cond ..,_,_,h,_|.block ..,_,_,h,_|.loop _,_,_,h,_|.scope _,_,_,h,_|.rangeFunc ..,_,_,h,_|.refuse _,_,_,h,_=>by simp[findLabel] at h
theorem ji{l:Nat}:∀ {k k':List Item},gotoIn l k=some k'->Items P L k->Items P L k'
 | [],k',h,_=>by simp[gotoIn] at h
 | x::k,k',h,hk=>by
  rw[aH] at hk
  cases x <;> simp only[gotoIn] at h <;> first|exact ji h hk.2|skip
  rename_i body
  cases hb:findLabel body l with
  | none=>rw[hb] at h;exact ji h hk.2
  | some r =>
   rw[hb] at h;cases h
   rw[aH,aH];exact⟨nG hb hk.1,hk.1,hk.2⟩
theorem xY(fn:FuncId)(tmps:Array Value){todo:List Item}(h:Items P L todo)(v:Value):∃ bQ todo',(F fn tmps todo).finish v=F fn bQ todo'/\Items P L todo':=by
 cases todo with
 | nil=>exact⟨tmps,[],rfl,h⟩
 | cons x k =>
  have hh:=aH.1 h
  cases x with
  | inRegion ops l =>
   cases l with
   | nil=>exact⟨tmps,_,rfl,h⟩
   | cons i l=>exact⟨_,.inRegion ops l::k,rfl,aH.2 ⟨hh.1,hh.2⟩⟩
  | code c=>exact⟨tmps,_,rfl,h⟩
  | inBlock id=>exact⟨tmps,_,rfl,h⟩
  | inLoop c=>exact⟨tmps,_,rfl,h⟩
  | inScope c=>exact⟨tmps,_,rfl,h⟩
  | _=>exact absurd hh.1 (by simp[jl])
theorem yL{fr fr':Frame}{cs cs':List Frame}{w:World}(h:∀ B w,stepG P true (G fr (cs++B)) w=.go (G fr' (cs'++B)) w #[]):Ez P fr cs w 0 fr' cs' w #[] :=⟨fun B τ d _=>h B _,rfl,rfl,aY _,by simp⟩
theorem moves{fn:FuncId}{tmps:Array Value}{todo todo':List Item}{cs:List Frame}{w:World}(hfn:(P.funcs[fn]?).isSome=true)(hcs:∀ c∈cs,MQ P L c)(hi:Items P L todo')(h:∀ B w,stepG P true (G (F fn tmps todo) (cs++B)) w=.go (G (F fn tmps todo') (cs++B)) w #[]):DX P L (F fn tmps todo) cs w :=.go 0 _ cs w #[] (yL h) (.inl ⟨fn,tmps,todo',rfl,hfn,hi⟩) hcs
theorem Xz{fn:FuncId}{es:Array Event}:∀ e∈seen P fn es,∀ f,e.loc≠.mark (.extern f):=by
 unfold seen;dsimp only
 rw[<-qb4];have key:∀ (l:List Event)(q:Bool)(kept:Array Event),(∀ e∈kept,∀ f,e.loc≠.mark (.extern f))->∀ e∈(l.foldl (fun (x:Bool×Array Event) e=>match e.loc with
   | .mark (.extern f)=>((P.funcs[f]?).any (·.norace),x.2)
   | _=>(x.1,if x.1&&!e.sync then x.2 else x.2.push e)) (q,kept)).2,∀ f,e.loc≠.mark (.extern f):=by
  intro l
  induction l with
  | nil=>intro q kept h;exact h
  | cons a l ih =>
   intro q kept h;rw[Xu];dsimp only
   split
   .exact ih _ _ h
   .rename_i hne
    refine ih _ _ ?_;split
    .exact h
    .intro e he f;rcases Array.mem_push.1 he with he|rfl
     .exact h e he f
     .exact hne f
 exact key _ _ _ (by simp)
theorem fM{m:Nat}{fn:FuncId}{es:Array Event}(h:∀ e∈es,EX m e):∀ e∈seen P fn es,Low m e:=fun e he=>(h e (mem_seen he)).elim id fun⟨f,hf⟩=>absurd hf (Xz e he f)
theorem qR{m:Nat}{es':Array Event}(h:∃ u,es'=#[]++u/\∀ e∈u,EX m e):∀ e∈es',EX m e:=by
 obtain⟨u,h1,h2⟩:=h;rw[h1];simpa using h2
theorem Ri(hP:fO P L){f:FuncId}(hf:oD P L f=true)(args:Array Value):MQ P L (Frame.enter P f args .normal):=by
 have h0:=hf;unfold oD at h0;rw[fE] at h0
 cases hfn:P.funcs[f]? with
 | none=>rw[hfn] at h0;simp at h0
 | some fn =>
  rw[hfn] at h0;simp only[fE] at h0
  cases hb:fn.body with
  | none=>rw[hb] at h0;simp at h0
  | some c =>
   refine⟨f,args++Array.replicate (fn.ntmps-args.size) undef,[.code c],by simp[Frame.enter,F,hfn,hb],by rw[hfn];rfl,?_⟩;intro x hx;rw[qbk] at hx;subst hx;exact hP.code f hf fn c hfn hb
theorem D9(hP:fO P L)(fr:Frame)(g:Nat)(w:World):(∃ c e,w.heap[g]? = some (.pending c e)/\∀ cs τ d,early P fr cs none g (tp w τ d)=.go (G fr cs) (tp {w with heap:=w.heap.setIfInBounds g (.cells c e)} τ d) #[])\/∀ cs τ d,∃ o,early P fr cs none g (tp w τ d)=.ended o (tp w τ d) #[]:=by
 by_cases hf:P.follows .staticDataAhead=true
 .refine .inr fun cs τ d=>?_
  unfold early;simp only[hf,hP.step g,qb1,jI,if_false];exact⟨_,rfl⟩
 .have hf':P.follows .staticDataAhead=false:=by simpa using hf
  by_cases hc:∃ c e,w.heap[g]? = some (.pending c e)
  .obtain⟨c,e,hc⟩:=hc;refine .inl ⟨c,e,hc,fun cs τ d=>?_⟩;have h1:(tp w τ d).heap[g]? = some (.pending c e):=hc;unfold early;simp only[hf',qb9,if_true,h1];rfl
  .refine .inr fun cs τ d=>?_
   unfold early;simp only[hf',qb9,if_true];split
   .rename_i c e h;exact absurd ⟨c,e,h⟩ hc
   .exact⟨_,rfl⟩
theorem Dz(hP:fO P L){fn:FuncId}{tmps:Array Value}{todo:List Item}{cs:List Frame}{w:World}{s:Sem Next}(hfn:(P.funcs[fn]?).isSome=true)(hi:Items P L todo)(hcs:∀ c∈cs,MQ P L c)(hs:ok P (nI P L) s)(hst:∀ B w,stepG P true (G (F fn tmps todo) (cs++B)) w=stepG.apply P true (F fn tmps todo) (cs++B) none s w):DX P L (F fn tmps todo) cs w:=by
 obtain⟨n,r,es',hr⟩:=dZ hs w #[];have hlow:=qR hr.low;have hself:MQ P L (F fn tmps todo):=⟨fn,tmps,todo,rfl,hfn,hi⟩;have hkind:(match (F fn tmps todo).todo with|.call _ true _ _::_=>CallKind.wrapped|_=>CallKind.normal)=CallKind.normal:=by
  cases todo with
  | nil=>rfl
  | cons x k=>cases x <;> first|rfl|exact absurd (aH.1 hi).1 (by simp[jl])
 have hk2:((F fn tmps todo).kind==CallKind.early)=false:=rfl
 cases r with
 | ok a w' =>
  have ha:=hr.good a w' rfl;have e:∀ τ d,(∀ i,i<n->τ (d+i)=w.tape (w.drawn+i))->s.runT P (tp w τ d) #[]=(.ok a (tp w' τ (d+n)),es'):=fun τ d ht=>hr.nat τ d ht
  cases a <;> first|exact ha.elim|skip
  .rename_i v
   obtain⟨bQ,todo',h1,h2⟩:=xY (L:=L) fn tmps hi v;refine .go n _ cs w' (seen P fn es') ⟨fun B τ d ht=>?_,hr.drawn,hr.tape,hr.size,fM hlow⟩ (.inl ⟨fn,bQ,todo',h1,hfn,h2⟩) hcs;rw[hst];unfold stepG.apply;simp only[e τ d ht,if_true,hk2,jI,if_false];show GStep.after _ _=_;simp[GStep.after,G,F]
  .obtain⟨bQ,todo',h1,h2⟩:=xY (L:=L) fn tmps hi undef;refine .go n _ cs w' (seen P fn es') ⟨fun B τ d ht=>?_,hr.drawn,hr.tape,hr.size,fM hlow⟩ (.inl ⟨fn,bQ,todo',h1,hfn,h2⟩) hcs;rw[hst];unfold stepG.apply;simp only[e τ d ht,if_true,hk2,jI,if_false];show GStep.after _ _=_;simp[GStep.after,G,F]
  .rename_i f args
   refine .go n (Frame.enter P f args .normal) (F fn tmps todo::cs) w' (seen P fn es') ⟨fun B τ d ht=>?_,hr.drawn,hr.tape,hr.size,fM hlow⟩ (.inl (Ri hP ha args)) (fun c hc=>?_)
   .rw[hst];unfold stepG.apply;simp only[e τ d ht,if_true,hk2,jI,if_false];show GStep.after _ _=_;simp[GStep.after,G,F];clear hst hself hkind hk2 hr hlow e
    cases todo with
    | nil=>rfl
    | cons x k=>cases x <;> first|rfl|exact absurd (aH.1 hi).1 (by simp[jl])
   .rcases rD.1 hc with rfl|hc
    .exact hself
    .exact hcs c hc
 | halt h w' =>
  have hc:=hr.calm h w' rfl;have e:∀ τ d,(∀ i,i<n->τ (d+i)=w.tape (w.drawn+i))->s.runT P (tp w τ d) #[]=(.halt h (tp w' τ (d+n)),es'):=fun τ d ht=>hr.nat τ d ht
  cases h <;> first|exact hc.elim|skip
  .rename_i v
   refine .panic n ((F fn tmps todo).raise [{v,recovered:=false}]) w' (seen P fn es') (fun B τ d ht=>?_) ⟨⟨_,rfl⟩,rfl,hfn⟩;rw[hst];unfold stepG.apply;simp only[e τ d ht,if_true,hk2,jI,if_false];show GStep.after _ _=_;simp[GStep.after,G,F]
  .rename_i u
   by_cases hu:∃ g,u=.initOrder g
   .obtain⟨g,rfl⟩:=hu;have hap:∀ B τ d,(∀ i,i<n->τ (d+i)=w.tape (w.drawn+i))->stepG P true (G (F fn tmps todo) (cs++B)) (tp w τ d)=early P (F fn tmps todo) (cs++B) none g (tp w' τ (d+n)):=fun B τ d ht=>by
     rw[hst];unfold stepG.apply;simp only[e τ d ht,if_true,hk2,jI,if_false];show GStep.after _ _=_;have hs0:seen P (F fn tmps todo).fn #[]=#[]:=rfl;rw[hs0]
     cases early P (F fn tmps todo) (cs++B) none g (tp w' τ (d+n)) <;> simp[GStep.after]
    rcases D9 hP (F fn tmps todo) g w' with⟨c,t,hc,h0⟩|h0
    .refine .go n (F fn tmps todo) cs {w' with heap:=w'.heap.setIfInBounds g (.cells c t)} #[] ⟨fun B τ d ht=>?_,hr.drawn,hr.tape,?_,by simp⟩ (.inl hself) hcs
     .rw[hap B τ d ht,h0]
     .have:=hr.size;simpa[rw] using this
    .refine .ended n fun B τ d ht=>?_
     rw[hap B τ d ht];obtain⟨o,ho⟩:=h0 (cs++B) τ (d+n);exact⟨_,_,_,ho⟩
   .refine .ended n fun B τ d ht=>?_
    rw[hst];unfold stepG.apply;simp only[e τ d ht,if_true,hk2,jI,if_false]
    cases u <;> first|exact⟨_,_,_,rfl⟩|exact absurd ⟨_,rfl⟩ hu
  .refine .ended n fun B τ d ht=>?_
   rw[hst];unfold stepG.apply;simp only[e τ d ht,if_true,hk2,jI,if_false];exact⟨_,_,_,rfl⟩
theorem Sz(hP:fO P L){fn:FuncId}{tmps:Array Value}{todo:List Item}{cs:List Frame}{w:World}{s s':Sem Next}{es0:Array Event}(hfn:(P.funcs[fn]?).isSome=true)(hi:Items P L todo)(hcs:∀ c∈cs,MQ P L c)(hs:ok P (fun _=>False) s')(hrun:∀ τ d,s.runT P (tp w τ d) #[]=s'.runT P (tp w τ d) es0)(hst:∀ B w,stepG P true (G (F fn tmps todo) (cs++B)) w=stepG.apply P true (F fn tmps todo) (cs++B) none s w):DX P L (F fn tmps todo) cs w:=by
 obtain⟨n,r,es',hr⟩:=dZ hs w es0;have hself:MQ P L (F fn tmps todo):=⟨fn,tmps,todo,rfl,hfn,hi⟩;have hk2:((F fn tmps todo).kind==CallKind.early)=false:=rfl
 cases r with
 | ok a w'=>exact(hr.good a w' rfl).elim
 | halt h w' =>
  have hc:=hr.calm h w' rfl;have e:∀ τ d,(∀ i,i<n->τ (d+i)=w.tape (w.drawn+i))->s.runT P (tp w τ d) #[]=(.halt h (tp w' τ (d+n)),es'):=fun τ d ht=>(hrun τ d).trans (hr.nat τ d ht)
  cases h <;> first|exact hc.elim|skip
  .rename_i v
   refine .panic n ((F fn tmps todo).raise [{v,recovered:=false}]) w' (seen P fn es') (fun B τ d ht=>?_) ⟨⟨_,rfl⟩,rfl,hfn⟩;rw[hst];unfold stepG.apply;simp only[e τ d ht,if_true,hk2,jI,if_false];show GStep.after _ _=_;simp[GStep.after,G,F]
  .rename_i u
   by_cases hu:∃ g,u=.initOrder g
   .obtain⟨g,rfl⟩:=hu;have hap:∀ B τ d,(∀ i,i<n->τ (d+i)=w.tape (w.drawn+i))->stepG P true (G (F fn tmps todo) (cs++B)) (tp w τ d)=early P (F fn tmps todo) (cs++B) none g (tp w' τ (d+n)):=fun B τ d ht=>by
     rw[hst];unfold stepG.apply;simp only[e τ d ht,if_true,hk2,jI,if_false];show GStep.after _ _=_;have hs0:seen P (F fn tmps todo).fn #[]=#[]:=rfl;rw[hs0]
     cases early P (F fn tmps todo) (cs++B) none g (tp w' τ (d+n)) <;> simp[GStep.after]
    rcases D9 hP (F fn tmps todo) g w' with⟨c,t,hc,h0⟩|h0
    .refine .go n (F fn tmps todo) cs {w' with heap:=w'.heap.setIfInBounds g (.cells c t)} #[] ⟨fun B τ d ht=>?_,hr.drawn,hr.tape,?_,by simp⟩ (.inl hself) hcs
     .rw[hap B τ d ht,h0]
     .have:=hr.size;simpa[rw] using this
    .refine .ended n fun B τ d ht=>?_
     rw[hap B τ d ht];obtain⟨o,ho⟩:=h0 (cs++B) τ (d+n);exact⟨_,_,_,ho⟩
   .refine .ended n fun B τ d ht=>?_
    rw[hst];unfold stepG.apply;simp only[e τ d ht,if_true,hk2,jI,if_false]
    cases u <;> first|exact⟨_,_,_,rfl⟩|exact absurd ⟨_,rfl⟩ hu
  .refine .ended n fun B τ d ht=>?_
   rw[hst];unfold stepG.apply;simp only[e τ d ht,if_true,hk2,jI,if_false];exact⟨_,_,_,rfl⟩
theorem Ya{ρ:Operand->Value}{o:Oper}{x:Operand}(ho:o.op=.panic x)(hx:ρ x=.nilIface)(w:World):∃ (s':Sem Next)(es0:Array Event),ok P (fun _=>False) s'/\∀ τ d,(execOp ρ o).runT P (tp w τ d) #[]=s'.runT P (tp w τ d) es0:=by
 have e0:execOp ρ o=(do pure (.value (<- Instr.panic .nilIface))):=by unfold execOp;rw[ho];dsimp only;rw[hx]
 have hz:∃ Z:SysRet->Sem Int,Instr.panicnil=Sem.sys .env Z/\∀ r,ok P T (Z r):=by
  refine⟨_,rfl,fun r=>?_⟩;refine d9 (C:=T) (fun x _=>?_) (trivial:ok P T (Sem.pure r))
  cases x <;> first|exact aA _|exact aC bO fun _=>ay _
 obtain⟨Z,h1,h2⟩:=hz;have e1:execOp ρ o=Sem.sys .env (fun r=>((Z r).bind fun n=>(if n==1 then goPanic .nilIface else runtimePanic .panicNil:Sem Value)).bind fun v=>.pure (.value v)):=by
  rw[e0];unfold Instr.panic;dsimp only
  rw[h1];rfl
 refine⟨((Z (.strings w.os.env)).bind fun n=>(if n==1 then goPanic .nilIface else runtimePanic .panicNil:Sem Value)).bind fun v=>.pure (.value v),#[⟨.output,true,false⟩],?_,fun τ d=>by rw[e1];rfl⟩;refine d9 (C:=fun _=>False) (fun _ h=>h.elim) (d9 (C:=T) (fun n _=>?_) (h2 _));exact bq (sV _) (bF _)
theorem WQ{fn:FuncId}{tmps:Array Value}{todo:List Item}{cs:List Frame}{w:World}(hfn:(P.funcs[fn]?).isSome=true)(hcs:∀ c∈cs,MQ P L c)(h:∀ B w,stepG P true (G (F fn tmps todo) (cs++B)) w=.go (G (R fn tmps todo) (cs++B)) w #[]):DX P L (F fn tmps todo) cs w :=.go 0 _ cs w #[] (yL h) (.inr ⟨fn,tmps,todo,rfl,hfn⟩) hcs
theorem eval_func(fr:Frame)(f:FuncId):fr.eval (.func f)=.func (.func f) #[] #[]:=rfl
theorem Vx(hP:fO P L){fn:FuncId}{tmps:Array Value}{todo:List Item}{cs:List Frame}{w:World}(hfn:(P.funcs[fn]?).isSome=true)(hi:Items P L todo)(hcs:∀ c∈cs,MQ P L c):DX P L (F fn tmps todo) cs w:=by
 cases todo with
 | nil=>exact WQ hfn hcs fun B w=>by simp[stepG,stepG.exec,F,R,G]
 | cons x k =>
  obtain⟨hx,hk⟩:=aH.1 hi
  cases x with
  | inBlock id=>exact moves hfn hcs hk fun B w=>by simp[stepG,stepG.exec,F,G]
  | inScope c=>exact moves hfn hcs hk fun B w=>by simp[stepG,stepG.exec,F,G]
  | inLoop c=>exact moves hfn hcs (todo':=.code c::.inLoop c::k) (aH.2 ⟨hx,aH.2 ⟨hx,hk⟩⟩) fun B w=>by simp[stepG,stepG.exec,F,G]
  | code c =>
   cases c with
   | skip=>exact moves hfn hcs hk fun B w=>by simp[stepG,stepG.exec,F,G]
   | label l=>exact moves hfn hcs hk fun B w=>by simp[stepG,stepG.exec,F,G]
   | ret=>exact WQ hfn hcs fun B w=>by simp[stepG,stepG.exec,F,R,G]
   | seq a b =>
    simp only[jl,gU,fE] at hx;exact moves hfn hcs (todo':=.code a::.code b::k) (aH.2 ⟨hx.1,aH.2 ⟨hx.2,hk⟩⟩) fun B w=>by simp[stepG,stepG.exec,F,G]
   | block id a=>exact moves hfn hcs (todo':=.code a::.inBlock id::k) (aH.2 ⟨hx,aH.2 ⟨rfl,hk⟩⟩) fun B w=>by simp[stepG,stepG.exec,F,G]
   | loop a=>exact moves hfn hcs (todo':=.code a::.inLoop a::k) (aH.2 ⟨hx,aH.2 ⟨hx,hk⟩⟩) fun B w=>by simp[stepG,stepG.exec,F,G]
   | scope a=>exact moves hfn hcs (todo':=.code a::.inScope a::k) (aH.2 ⟨hx,aH.2 ⟨hx,hk⟩⟩) fun B w=>by simp[stepG,stepG.exec,F,G]
   | cond c a b =>
    simp only[jl,gU,fE] at hx;by_cases hc:∃ t,(F fn tmps (.code (.cond c a b)::k)).eval c=.bool t
    .obtain⟨t,ht⟩:=hc;refine moves hfn hcs (todo':=.code (if t then a else b)::k) (aH.2 ⟨by cases t <;> simp[jl,hx],hk⟩) fun B w=>?_
     simp only[F] at ht;simp[stepG,stepG.exec,F,G,ht]
    .refine .ended 0 fun B τ d _=>?_
     simp only[stepG,stepG.exec,F,G];split
     .rename_i t ht;exact absurd ⟨t,ht⟩ hc
     .exact⟨_,_,_,rfl⟩
   | exit id =>
    cases he:exitTo id k with
    | some k'=>exact moves hfn hcs (jo he hk) fun B w=>by simp[stepG,stepG.exec,F,G,he]
    | none=>exact .ended 0 fun B τ d _=>⟨_,_,_,by simp[stepG,stepG.exec,F,G,he];exact⟨rfl,rfl,rfl⟩⟩
   | goto l =>
    cases he:gotoIn l k with
    | some k'=>exact moves hfn hcs (ji he hk) fun B w=>by simp[stepG,stepG.exec,F,G,he]
    | none=>exact .ended 0 fun B τ d _=>⟨_,_,_,by simp[stepG,stepG.exec,F,G,he];exact⟨rfl,rfl,rfl⟩⟩
   | region id ops draw =>
    cases draw with
    | false=>exact moves hfn hcs (todo':=.inRegion ops (List.range ops.size)::k) (aH.2 ⟨hx,hk⟩) fun B w=>by simp[stepG,stepG.exec,F,G]
    | true =>
     refine .go 1 (F fn tmps (.inRegion ops (Region.schedule (P.follows .mixedOrders) ops (w.tape w.drawn (.order fn id)))::k)) cs {w with drawn:=w.drawn+1} #[] ⟨fun B τ d ht=>?_,rfl,rfl,aY _,by simp⟩ (.inl ⟨fn,tmps,_,rfl,hfn,aH.2 ⟨hx,hk⟩⟩) hcs;have h1:τ d (.order fn id)=w.tape w.drawn (.order fn id):=by have:=ht 0 (by omega);simp only[R4] at this;rw[this]
     simp[stepG,stepG.exec,F,G,choose,Sem.run,Question.forced,Question.cut,tp,h1]
   | rangeFunc a b c d=>exact absurd hx (by simp[jl,gU])
   | refuse m=>exact .ended 0 fun B τ d _=>⟨_,_,_,by simp[stepG,stepG.exec,F,G];exact⟨rfl,rfl,rfl⟩⟩
  | inRegion ops l =>
   cases l with
   | nil=>exact moves hfn hcs hk fun B w=>by simp[stepG,stepG.exec,F,G]
   | cons i l =>
    by_cases hw:((ops[i]?).map (Region.wanted · (yielded ops tmps))).getD false=true
    .cases ho:ops[i]? with
     | none=>rw[ho] at hw;cases hw
     | some o =>
      have hok0:(bT P L o.op||Wy o.op)=true:=by
       simp only[jl,YF] at hx;obtain⟨hlt,he⟩:=fT.1 ho;have:=hx i hlt;rw[he] at this;exact this
      have hw2:Region.wanted o (yielded ops tmps)=true:=by rw[ho] at hw;simpa using hw
      rw[Yb] at hok0;rcases hok0 with hok|ZY
      rotate_left
      .cases hop:o.op <;> rw[hop] at ZY <;> first|(cases ZY;done)|skip
       rename_i x
       have hst:∀ B w,stepG P true (G (F fn tmps (.inRegion ops (i::l)::k)) (cs++B)) w=stepG.apply P true (F fn tmps (.inRegion ops (i::l)::k)) (cs++B) none (execOp (F fn tmps (.inRegion ops (i::l)::k)).eval o) w:=fun B w=>by
        simp[stepG,stepG.exec,stepG.oper,Frame.oper?,F,G,hw2,ho]
       by_cases hv:(F fn tmps (.inRegion ops (i::l)::k)).eval x=.nilIface
       .obtain⟨s',es0,h1,h2⟩:=Ya (P:=P) hop hv w;exact Sz hP hfn hi hcs h1 h2 hst
       .refine Dz hP hfn hi hcs ?_ hst;unfold execOp;rw[hop];dsimp only
        generalize (F fn tmps (.inRegion ops (i::l)::k)).eval x=v at hv;refine lg ?_;unfold Instr.panic
        cases v <;> first|exact absurd rfl hv|exact sV _|exact aA _
      refine Dz hP hfn hi hcs (uy (hE:=hP.ext) (ρ:=(F fn tmps (.inRegion ops (i::l)::k)).eval) (o:=o) (eval_func _) hok) fun B w=>?_
      simp[stepG,stepG.exec,stepG.oper,Frame.oper?,F,G,hw2,ho]
    .have hw':((ops[i]?).map (Region.wanted · (yielded ops tmps))).getD false=false:=by simpa using hw
     obtain⟨bQ,todo',h1,h2⟩:=xY (L:=L) fn tmps hi undef;refine .go 0 _ cs w #[] (yL fun B w=>?_) (.inl ⟨fn,bQ,todo',rfl,hfn,h2⟩) hcs;rw[<-h1];simp[stepG,stepG.exec,F,G,hw']
  | inRangeFunc l=>exact absurd hx (by simp[jl])
  | endRangeFunc l=>exact absurd hx (by simp[jl])
  | beginRound=>exact absurd hx (by simp[jl])
  | call d b r s=>exact absurd hx (by simp[jl])
  | extern r a=>exact absurd hx (by simp[jl])
end
end Cc
end
end Go.Proofs.YtdbgldieilgnmaaGreatDoor
