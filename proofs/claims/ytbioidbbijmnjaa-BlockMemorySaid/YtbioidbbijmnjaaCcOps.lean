/-
  CcOps: the operations that are ordinary: they ask no system, say no word, go on with a value or with nothing.
-/
import Derived.Test.YtbioidbbijmnjaaCcSem
namespace Go.Proofs.Ytbioidbbijmnjaa
set_option linter.unusedVariables false
set_option linter.unusedSimpArgs false
open Go.Conc
namespace Cc
def T {α : Type} : α → Prop := fun _ => True
section
variable {α β : Type} {P : Program} {C : α → Prop} {D : β → Prop}
theorem ok_bd {s : Sem α} {f : α → Sem β} (h : ok P T s) (hf : ∀ a, ok P D (f a)) : ok P D (s >>= f) := ok_bind (fun a _ => hf a) h
theorem ok_map {s : Sem α} {f : α → β} (h : ok P T s) : ok P (T : β → Prop) (f <$> s) := by
  show ok P T (s.bind fun a => .pure (f a))
  exact ok_bind (P := P) (C := T) (D := T) (f := fun a => Sem.pure (f a)) (fun a _ => (trivial : T (f a))) h
theorem ok_pure (a : α) : ok P T (pure a : Sem α) := trivial
theorem ok_stuck (m : String) : ok P C (stuck m : Sem α) := trivial
theorem ok_uns (u : Unsupported) : ok P C (unsupported u : Sem α) := trivial
theorem ok_panic (v : Value) : ok P C (goPanic v : Sem α) := trivial
end
section
variable {P : Program}
theorem ok_program : ok P T program := trivial
theorem ok_load (a : Addr) : ok P T (load a) := ⟨rfl, fun _ => trivial⟩
theorem ok_store (a : Addr) (v : Value) : ok P T (store a v) := ⟨rfl, trivial⟩
theorem ok_newObj (o : Obj) : ok P T (newObj o) := fun _ => trivial
theorem ok_shape (r : Nat) : ok P T (shape r) := fun _ => trivial
theorem ok_freeze (a : Addr) (n : Nat) : ok P T (freeze a n) := trivial
theorem ok_frozen (a : Addr) : ok P T (frozen a) := fun _ => trivial
theorem ok_getObj (r : Nat) : ok P T (getObj r) := fun _ => trivial
theorem ok_choose (q : Question) : ok P T (choose q) := fun _ => trivial
theorem ok_markNoRoom : ok P T (mark .noRoom) := ⟨rfl, trivial⟩
theorem ok_askRoom (n : Nat) : ok P T (askRoom n) := by
  unfold askRoom
  split
  · exact ok_markNoRoom
  · exact ok_pure _
theorem ok_typeInfo (t : TypeId) : ok P T (typeInfo t) := by
  unfold typeInfo
  refine ok_bd ok_program fun p => ?_
  split
  · exact ok_pure _
  · exact ok_stuck _
theorem ok_underlying (t : TypeId) : ok P T (underlying t) := by
  unfold underlying
  refine ok_bd ok_program fun p => ?_
  split
  · exact ok_pure _
  · exact ok_stuck _
theorem ok_zeroValue (t : TypeId) : ok P T (zeroValue t) := by
  unfold zeroValue
  refine ok_bd (ok_typeInfo t) fun p => ?_
  split
  · exact ok_pure _
  · exact ok_uns _
theorem ok_sizeOf (t : TypeId) : ok P T (sizeOf t) := ok_bd (ok_typeInfo t) fun _ => ok_pure _
theorem ok_isAgg (t : TypeId) : ok P T (isAgg t) := by
  unfold isAgg
  refine ok_bd (ok_underlying t) fun p => ?_
  split <;> exact ok_pure _
theorem ok_loadCellsFrom (a : Addr) : ∀ (n i : Nat) (acc : Array Value), ok P T (loadCellsFrom a i n acc)
  | 0, i, acc => ok_pure _
  | n + 1, i, acc => ok_bd (ok_load _) fun v => ok_loadCellsFrom a n (i + 1) _
theorem ok_loadCells (a : Addr) (n : Nat) : ok P T (loadCells a n) := ok_loadCellsFrom a n 0 _
theorem ok_storeCells (a : Addr) : ∀ (vs : List Value) (i : Nat), ok P T (storeCells a vs i)
  | [], i => ok_pure _
  | v :: vs, i => ok_bd (ok_store _ _) fun _ => ok_storeCells a vs (i + 1)
theorem ok_loadVar (t : TypeId) (a : Addr) : ok P T (loadVar t a) := by
  unfold loadVar
  refine ok_bd (ok_isAgg t) fun b => ?_
  split
  · exact ok_bd (ok_sizeOf t) fun n => ok_bd (ok_loadCells a n) fun _ => ok_pure _
  · exact ok_load a
theorem ok_storeVar (t : TypeId) (a : Addr) (v : Value) : ok P T (storeVar t a v) := by
  unfold storeVar
  refine ok_bd (ok_sizeOf t) fun n => ?_
  split
  · exact ok_bd (ok_stuck _) fun _ => ok_storeCells a _ 0
  · exact ok_storeCells a _ 0
theorem ok_newRow (t : TypeId) (c : Array Value) : ok P T (newRow t c) := ok_bd (ok_newObj _) fun _ => ok_pure _
theorem ok_newVar (t : TypeId) (v : Value) : ok P T (newVar t v) := ok_newRow t _
theorem ok_part (t : TypeId) (cs : Array Value) (off : Nat) : ok P T (part t cs off) := by
  unfold part
  refine ok_bd (ok_isAgg t) fun b => ?_
  split
  · exact ok_bd (ok_sizeOf t) fun n => ok_pure _
  · split
    · exact ok_pure _
    · exact ok_stuck _
theorem ok_asIntOf (v : Value) : ok P T (asIntOf v) := by
  unfold asIntOf
  split <;> first | exact ok_pure _ | exact ok_uns _ | exact ok_stuck _
theorem ok_asInt (v : Value) : ok P T (asInt v) := ok_bd (ok_asIntOf v) fun _ => ok_pure _
theorem ok_asBool (v : Value) : ok P T (asBool v) := by
  unfold asBool
  split <;> first | exact ok_pure _ | exact ok_stuck _
theorem ok_asAgg (v : Value) : ok P T (asAgg v) := by
  unfold asAgg
  split <;> first | exact ok_pure _ | exact ok_stuck _
theorem ok_elemOf (t : TypeId) : ok P T (elemOf t) := by
  unfold elemOf
  refine ok_bd (ok_underlying t) fun p => ?_
  split
  · exact ok_pure _
  · exact ok_stuck _
theorem ok_rtPanic {α : Type} {C : α → Prop} (e : RuntimeError) : ok P C (runtimePanic e : Sem α) := by
  unfold runtimePanic
  refine ok_bd ok_program fun p => ?_
  dsimp only
  split <;> first | exact ok_panic _ | exact ok_stuck _ | exact ok_uns _ | skip
  · exact ok_bd (ok_elemOf _) fun _ => ok_bd (ok_newVar _ _) fun _ => ok_panic _
  · exact ok_bd (ok_elemOf _) fun _ => ok_bd (ok_newVar _ _) fun _ => ok_panic _
theorem ok_bounds {α : Type} {C : α → Prop} (k : IntKind) (x y : Int) (c : BoundsCode) : ok P C (boundsPanic k x y c : Sem α) := by
  unfold boundsPanic
  dsimp only
  split
  · exact ok_bd (ok_map (ok_choose _)) fun _ => ok_rtPanic _
  · exact ok_bd (ok_pure _) fun _ => ok_rtPanic _
theorem ok_sureAddr (v : Value) : ok P T (Instr.sureAddr v) := by
  unfold Instr.sureAddr
  repeat' (first
    | exact ok_pure _ | exact ok_stuck _ | exact ok_uns _ | exact ok_rtPanic _ | exact ok_bounds _ _ _ _ | exact ok_panic _
    | exact ok_underlying _ | exact ok_sizeOf _ | exact ok_zeroValue _ | exact ok_typeInfo _ | exact ok_asInt _ | exact ok_asIntOf _ | exact ok_asBool _ | exact ok_asAgg _ | exact ok_part _ _ _
    | exact ok_newVar _ _ | exact ok_newRow _ _ | exact ok_loadVar _ _ | exact ok_storeVar _ _ _ | exact ok_loadCells _ _ | exact ok_storeCells _ _ _ | exact ok_choose _ | exact ok_askRoom _ | exact ok_program | exact ok_shape _ | exact ok_frozen _ | exact ok_freeze _ _ | exact ok_getObj _ | exact ok_markNoRoom | exact ok_isAgg _
    | (refine ok_bd ?_ (fun _ => ?_))
    | (dsimp only; done)
    | split
    | dsimp only)
theorem ok_loadAt (t : TypeId) (v : Value) : ok P T (Instr.loadAt t v) := ok_bd (ok_sureAddr v) fun a => ok_loadVar t a
theorem ok_storeAt (t : TypeId) (v x : Value) : ok P T (Instr.storeAt t v x) := ok_bd (ok_sureAddr v) fun a => ok_storeVar t a x
theorem ok_alloc (e : TypeId) (h : Bool) (o : Value) : ok P T (Instr.alloc e h o) := by
  unfold Instr.alloc
  repeat' (first
    | exact ok_pure _ | exact ok_stuck _ | exact ok_uns _ | exact ok_rtPanic _ | exact ok_bounds _ _ _ _ | exact ok_panic _
    | exact ok_underlying _ | exact ok_sizeOf _ | exact ok_zeroValue _ | exact ok_typeInfo _ | exact ok_asInt _ | exact ok_asIntOf _ | exact ok_asBool _ | exact ok_asAgg _ | exact ok_part _ _ _
    | exact ok_newVar _ _ | exact ok_newRow _ _ | exact ok_loadVar _ _ | exact ok_storeVar _ _ _ | exact ok_loadCells _ _ | exact ok_storeCells _ _ _ | exact ok_choose _ | exact ok_askRoom _ | exact ok_program | exact ok_shape _ | exact ok_frozen _ | exact ok_freeze _ _ | exact ok_getObj _ | exact ok_markNoRoom | exact ok_isAgg _
    | (refine ok_bd ?_ (fun _ => ?_))
    | (dsimp only; done)
    | split
    | dsimp only)
theorem ok_box (e : TypeId) (v : Value) : ok P T (Instr.box e v) := ok_bd (ok_newVar e v) fun _ => ok_pure _
theorem ok_buildSlice (t : TypeId) (n : Nat) (ps : Array (Nat × Value)) : ok P T (Instr.buildSlice t n ps) := by
  unfold Instr.buildSlice
  repeat' (first
    | exact ok_pure _ | exact ok_stuck _ | exact ok_uns _ | exact ok_rtPanic _ | exact ok_bounds _ _ _ _ | exact ok_panic _
    | exact ok_underlying _ | exact ok_sizeOf _ | exact ok_zeroValue _ | exact ok_typeInfo _ | exact ok_asInt _ | exact ok_asIntOf _ | exact ok_asBool _ | exact ok_asAgg _ | exact ok_part _ _ _
    | exact ok_newVar _ _ | exact ok_newRow _ _ | exact ok_loadVar _ _ | exact ok_storeVar _ _ _ | exact ok_loadCells _ _ | exact ok_storeCells _ _ _ | exact ok_choose _ | exact ok_askRoom _ | exact ok_program | exact ok_shape _ | exact ok_frozen _ | exact ok_freeze _ _ | exact ok_getObj _ | exact ok_markNoRoom | exact ok_isAgg _
    | (refine ok_bd ?_ (fun _ => ?_))
    | (dsimp only; done)
    | split
    | dsimp only)
theorem ok_indexAt (t : TypeId) (x i : Value) : ok P T (Instr.indexAt t x i) := by
  unfold Instr.indexAt
  repeat' (first
    | exact ok_pure _ | exact ok_stuck _ | exact ok_uns _ | exact ok_rtPanic _ | exact ok_bounds _ _ _ _ | exact ok_panic _
    | exact ok_underlying _ | exact ok_sizeOf _ | exact ok_zeroValue _ | exact ok_typeInfo _ | exact ok_asInt _ | exact ok_asIntOf _ | exact ok_asBool _ | exact ok_asAgg _ | exact ok_part _ _ _
    | exact ok_newVar _ _ | exact ok_newRow _ _ | exact ok_loadVar _ _ | exact ok_storeVar _ _ _ | exact ok_loadCells _ _ | exact ok_storeCells _ _ _ | exact ok_choose _ | exact ok_askRoom _ | exact ok_program | exact ok_shape _ | exact ok_frozen _ | exact ok_freeze _ _ | exact ok_getObj _ | exact ok_markNoRoom | exact ok_isAgg _ | exact ok_sureAddr _
    | (refine ok_bd ?_ (fun _ => ?_))
    | (dsimp only; done)
    | split
    | dsimp only)
theorem ok_sliceBound (x : Value) (y : Nat) (c : BoundsCode) : ok P T (Instr.sliceBound x y c) := by
  unfold Instr.sliceBound
  repeat' (first
    | exact ok_pure _ | exact ok_stuck _ | exact ok_uns _ | exact ok_rtPanic _ | exact ok_bounds _ _ _ _ | exact ok_panic _
    | exact ok_underlying _ | exact ok_sizeOf _ | exact ok_zeroValue _ | exact ok_typeInfo _ | exact ok_asInt _ | exact ok_asIntOf _ | exact ok_asBool _ | exact ok_asAgg _ | exact ok_part _ _ _
    | exact ok_newVar _ _ | exact ok_newRow _ _ | exact ok_loadVar _ _ | exact ok_storeVar _ _ _ | exact ok_loadCells _ _ | exact ok_storeCells _ _ _ | exact ok_choose _ | exact ok_askRoom _ | exact ok_program | exact ok_shape _ | exact ok_frozen _ | exact ok_freeze _ _ | exact ok_getObj _ | exact ok_markNoRoom | exact ok_isAgg _
    | (refine ok_bd ?_ (fun _ => ?_))
    | (dsimp only; done)
    | split
    | dsimp only)
theorem ok_sliceBounds (b : Bool) (n m : Nat) (lo hi mx : Option Value) : ok P T (Instr.sliceBounds b n m lo hi mx) := by
  unfold Instr.sliceBounds
  repeat' (first
    | exact ok_pure _ | exact ok_stuck _ | exact ok_uns _ | exact ok_rtPanic _ | exact ok_bounds _ _ _ _ | exact ok_panic _
    | exact ok_underlying _ | exact ok_sizeOf _ | exact ok_zeroValue _ | exact ok_typeInfo _ | exact ok_asInt _ | exact ok_asIntOf _ | exact ok_asBool _ | exact ok_asAgg _ | exact ok_part _ _ _
    | exact ok_newVar _ _ | exact ok_newRow _ _ | exact ok_loadVar _ _ | exact ok_storeVar _ _ _ | exact ok_loadCells _ _ | exact ok_storeCells _ _ _ | exact ok_choose _ | exact ok_askRoom _ | exact ok_program | exact ok_shape _ | exact ok_frozen _ | exact ok_freeze _ _ | exact ok_getObj _ | exact ok_markNoRoom | exact ok_isAgg _ | exact ok_sliceBound _ _ _
    | (refine ok_bd ?_ (fun _ => ?_))
    | (dsimp only; done)
    | split
    | dsimp only)
theorem ok_asAddr (v : Value) : ok P T (asAddr v) := by
  unfold asAddr
  repeat' (first
    | exact ok_pure _ | exact ok_stuck _ | exact ok_uns _ | exact ok_rtPanic _ | exact ok_bounds _ _ _ _ | exact ok_panic _
    | exact ok_underlying _ | exact ok_sizeOf _ | exact ok_zeroValue _ | exact ok_typeInfo _ | exact ok_asInt _ | exact ok_asIntOf _ | exact ok_asBool _ | exact ok_asAgg _ | exact ok_part _ _ _
    | exact ok_newVar _ _ | exact ok_newRow _ _ | exact ok_loadVar _ _ | exact ok_storeVar _ _ _ | exact ok_loadCells _ _ | exact ok_storeCells _ _ _ | exact ok_choose _ | exact ok_askRoom _ | exact ok_program | exact ok_shape _ | exact ok_frozen _ | exact ok_freeze _ _ | exact ok_getObj _ | exact ok_markNoRoom | exact ok_isAgg _
    | (refine ok_bd ?_ (fun _ => ?_))
    | (dsimp only; done)
    | split
    | dsimp only)
theorem ok_slice (t : TypeId) (x : Value) (lo hi mx : Option Value) : ok P T (Instr.slice t x lo hi mx) := by
  unfold Instr.slice
  repeat' (first
    | exact ok_pure _ | exact ok_stuck _ | exact ok_uns _ | exact ok_rtPanic _ | exact ok_bounds _ _ _ _ | exact ok_panic _
    | exact ok_underlying _ | exact ok_sizeOf _ | exact ok_zeroValue _ | exact ok_typeInfo _ | exact ok_asInt _ | exact ok_asIntOf _ | exact ok_asBool _ | exact ok_asAgg _ | exact ok_part _ _ _
    | exact ok_newVar _ _ | exact ok_newRow _ _ | exact ok_loadVar _ _ | exact ok_storeVar _ _ _ | exact ok_loadCells _ _ | exact ok_storeCells _ _ _ | exact ok_choose _ | exact ok_askRoom _ | exact ok_program | exact ok_shape _ | exact ok_frozen _ | exact ok_freeze _ _ | exact ok_getObj _ | exact ok_markNoRoom | exact ok_isAgg _ | exact ok_sliceBounds _ _ _ _ _ _ | exact ok_asAddr _
    | (refine ok_bd ?_ (fun _ => ?_))
    | (dsimp only; done)
    | split
    | dsimp only)
theorem ok_sliceAt (t : TypeId) (x : Value) (lo hi mx : Option Value) : ok P T (Instr.sliceAt t x lo hi mx) := by
  unfold Instr.sliceAt
  repeat' (first
    | exact ok_pure _ | exact ok_stuck _ | exact ok_uns _ | exact ok_rtPanic _ | exact ok_bounds _ _ _ _ | exact ok_panic _
    | exact ok_underlying _ | exact ok_sizeOf _ | exact ok_zeroValue _ | exact ok_typeInfo _ | exact ok_asInt _ | exact ok_asIntOf _ | exact ok_asBool _ | exact ok_asAgg _ | exact ok_part _ _ _
    | exact ok_newVar _ _ | exact ok_newRow _ _ | exact ok_loadVar _ _ | exact ok_storeVar _ _ _ | exact ok_loadCells _ _ | exact ok_storeCells _ _ _ | exact ok_choose _ | exact ok_askRoom _ | exact ok_program | exact ok_shape _ | exact ok_frozen _ | exact ok_freeze _ _ | exact ok_getObj _ | exact ok_markNoRoom | exact ok_isAgg _ | exact ok_sliceBounds _ _ _ _ _ _ | exact ok_sureAddr _ | exact ok_slice _ _ _ _ _
    | (refine ok_bd ?_ (fun _ => ?_))
    | (dsimp only; done)
    | split
    | dsimp only)
theorem ok_arrayAt (t : TypeId) (x : Value) : ok P T (Instr.arrayAt t x) := by
  unfold Instr.arrayAt
  repeat' (first
    | exact ok_pure _ | exact ok_stuck _ | exact ok_uns _ | exact ok_rtPanic _ | exact ok_bounds _ _ _ _ | exact ok_panic _
    | exact ok_underlying _ | exact ok_sizeOf _ | exact ok_zeroValue _ | exact ok_typeInfo _ | exact ok_asInt _ | exact ok_asIntOf _ | exact ok_asBool _ | exact ok_asAgg _ | exact ok_part _ _ _
    | exact ok_newVar _ _ | exact ok_newRow _ _ | exact ok_loadVar _ _ | exact ok_storeVar _ _ _ | exact ok_loadCells _ _ | exact ok_storeCells _ _ _ | exact ok_choose _ | exact ok_askRoom _ | exact ok_program | exact ok_shape _ | exact ok_frozen _ | exact ok_freeze _ _ | exact ok_getObj _ | exact ok_markNoRoom | exact ok_isAgg _
    | (refine ok_bd ?_ (fun _ => ?_))
    | (dsimp only; done)
    | split
    | dsimp only)
theorem ok_field (t : TypeId) (x : Value) (f : Nat) : ok P T (Instr.field t x f) := by
  unfold Instr.field
  repeat' (first
    | exact ok_pure _ | exact ok_stuck _ | exact ok_uns _ | exact ok_rtPanic _ | exact ok_bounds _ _ _ _ | exact ok_panic _
    | exact ok_underlying _ | exact ok_sizeOf _ | exact ok_zeroValue _ | exact ok_typeInfo _ | exact ok_asInt _ | exact ok_asIntOf _ | exact ok_asBool _ | exact ok_asAgg _ | exact ok_part _ _ _
    | exact ok_newVar _ _ | exact ok_newRow _ _ | exact ok_loadVar _ _ | exact ok_storeVar _ _ _ | exact ok_loadCells _ _ | exact ok_storeCells _ _ _ | exact ok_choose _ | exact ok_askRoom _ | exact ok_program | exact ok_shape _ | exact ok_frozen _ | exact ok_freeze _ _ | exact ok_getObj _ | exact ok_markNoRoom | exact ok_isAgg _
    | (refine ok_bd ?_ (fun _ => ?_))
    | (dsimp only; done)
    | split
    | dsimp only)
theorem ok_index (t : TypeId) (x i : Value) : ok P T (Instr.index t x i) := by
  unfold Instr.index
  repeat' (first
    | exact ok_pure _ | exact ok_stuck _ | exact ok_uns _ | exact ok_rtPanic _ | exact ok_bounds _ _ _ _ | exact ok_panic _
    | exact ok_underlying _ | exact ok_sizeOf _ | exact ok_zeroValue _ | exact ok_typeInfo _ | exact ok_asInt _ | exact ok_asIntOf _ | exact ok_asBool _ | exact ok_asAgg _ | exact ok_part _ _ _
    | exact ok_newVar _ _ | exact ok_newRow _ _ | exact ok_loadVar _ _ | exact ok_storeVar _ _ _ | exact ok_loadCells _ _ | exact ok_storeCells _ _ _ | exact ok_choose _ | exact ok_askRoom _ | exact ok_program | exact ok_shape _ | exact ok_frozen _ | exact ok_freeze _ _ | exact ok_getObj _ | exact ok_markNoRoom | exact ok_isAgg _
    | (refine ok_bd ?_ (fun _ => ?_))
    | (dsimp only; done)
    | split
    | dsimp only)
set_option maxHeartbeats 4000000 in
theorem ok_makeSlice (t : TypeId) (n c : Value) : ok P T (Instr.makeSlice t n c) := by
  unfold Instr.makeSlice
  repeat' (first
    | exact ok_pure _ | exact ok_stuck _ | exact ok_uns _ | exact ok_rtPanic _ | exact ok_bounds _ _ _ _ | exact ok_panic _
    | exact ok_underlying _ | exact ok_sizeOf _ | exact ok_zeroValue _ | exact ok_typeInfo _ | exact ok_asInt _ | exact ok_asIntOf _ | exact ok_asBool _ | exact ok_asAgg _ | exact ok_part _ _ _
    | exact ok_newVar _ _ | exact ok_newRow _ _ | exact ok_loadVar _ _ | exact ok_storeVar _ _ _ | exact ok_loadCells _ _ | exact ok_storeCells _ _ _ | exact ok_choose _ | exact ok_askRoom _ | exact ok_program | exact ok_shape _ | exact ok_frozen _ | exact ok_freeze _ _ | exact ok_getObj _ | exact ok_markNoRoom | exact ok_isAgg _
    | (refine ok_bd ?_ (fun _ => ?_))
    | (dsimp only; done)
    | split
    | dsimp only)
theorem ok_extract (x : Value) (i : Nat) : ok P T (Instr.extract x i) := by
  unfold Instr.extract
  repeat' (first
    | exact ok_pure _ | exact ok_stuck _ | exact ok_uns _ | exact ok_rtPanic _ | exact ok_bounds _ _ _ _ | exact ok_panic _
    | exact ok_underlying _ | exact ok_sizeOf _ | exact ok_zeroValue _ | exact ok_typeInfo _ | exact ok_asInt _ | exact ok_asIntOf _ | exact ok_asBool _ | exact ok_asAgg _ | exact ok_part _ _ _
    | exact ok_newVar _ _ | exact ok_newRow _ _ | exact ok_loadVar _ _ | exact ok_storeVar _ _ _ | exact ok_loadCells _ _ | exact ok_storeCells _ _ _ | exact ok_choose _ | exact ok_askRoom _ | exact ok_program | exact ok_shape _ | exact ok_frozen _ | exact ok_freeze _ _ | exact ok_getObj _ | exact ok_markNoRoom | exact ok_isAgg _
    | (refine ok_bd ?_ (fun _ => ?_))
    | (dsimp only; done)
    | split
    | dsimp only)
theorem ok_intArith (o : BinOp) (k : IntKind) (x y : Int) : ok P T (Op.intArith o k x y) := by
  unfold Op.intArith
  repeat' (first
    | exact ok_pure _ | exact ok_stuck _ | exact ok_uns _ | exact ok_rtPanic _ | exact ok_bounds _ _ _ _ | exact ok_panic _
    | exact ok_underlying _ | exact ok_sizeOf _ | exact ok_zeroValue _ | exact ok_typeInfo _ | exact ok_asInt _ | exact ok_asIntOf _ | exact ok_asBool _ | exact ok_asAgg _ | exact ok_part _ _ _
    | exact ok_newVar _ _ | exact ok_newRow _ _ | exact ok_loadVar _ _ | exact ok_storeVar _ _ _ | exact ok_loadCells _ _ | exact ok_storeCells _ _ _ | exact ok_choose _ | exact ok_askRoom _ | exact ok_program | exact ok_shape _ | exact ok_frozen _ | exact ok_freeze _ _ | exact ok_getObj _ | exact ok_markNoRoom | exact ok_isAgg _
    | (refine ok_bd ?_ (fun _ => ?_))
    | (dsimp only; done)
    | split
    | dsimp only)
theorem ok_intCmp (o : BinOp) (x y : Int) : ok P T (Op.intCmp o x y) := by
  unfold Op.intCmp
  repeat' (first
    | exact ok_pure _ | exact ok_stuck _ | exact ok_uns _ | exact ok_rtPanic _ | exact ok_bounds _ _ _ _ | exact ok_panic _
    | exact ok_underlying _ | exact ok_sizeOf _ | exact ok_zeroValue _ | exact ok_typeInfo _ | exact ok_asInt _ | exact ok_asIntOf _ | exact ok_asBool _ | exact ok_asAgg _ | exact ok_part _ _ _
    | exact ok_newVar _ _ | exact ok_newRow _ _ | exact ok_loadVar _ _ | exact ok_storeVar _ _ _ | exact ok_loadCells _ _ | exact ok_storeCells _ _ _ | exact ok_choose _ | exact ok_askRoom _ | exact ok_program | exact ok_shape _ | exact ok_frozen _ | exact ok_freeze _ _ | exact ok_getObj _ | exact ok_markNoRoom | exact ok_isAgg _
    | (refine ok_bd ?_ (fun _ => ?_))
    | (dsimp only; done)
    | split
    | dsimp only)
theorem ok_intBits (o : BinOp) (k : IntKind) (x y : Int) : ok P T (Op.intBits o k x y) := by
  unfold Op.intBits
  repeat' (first
    | exact ok_pure _ | exact ok_stuck _ | exact ok_uns _ | exact ok_rtPanic _ | exact ok_bounds _ _ _ _ | exact ok_panic _
    | exact ok_underlying _ | exact ok_sizeOf _ | exact ok_zeroValue _ | exact ok_typeInfo _ | exact ok_asInt _ | exact ok_asIntOf _ | exact ok_asBool _ | exact ok_asAgg _ | exact ok_part _ _ _
    | exact ok_newVar _ _ | exact ok_newRow _ _ | exact ok_loadVar _ _ | exact ok_storeVar _ _ _ | exact ok_loadCells _ _ | exact ok_storeCells _ _ _ | exact ok_choose _ | exact ok_askRoom _ | exact ok_program | exact ok_shape _ | exact ok_frozen _ | exact ok_freeze _ _ | exact ok_getObj _ | exact ok_markNoRoom | exact ok_isAgg _
    | (refine ok_bd ?_ (fun _ => ?_))
    | (dsimp only; done)
    | split
    | dsimp only)
theorem ok_intDiv (o : BinOp) (k : IntKind) (x y : Int) : ok P T (Op.intDiv o k x y) := by
  unfold Op.intDiv
  repeat' (first
    | exact ok_pure _ | exact ok_stuck _ | exact ok_uns _ | exact ok_rtPanic _ | exact ok_bounds _ _ _ _ | exact ok_panic _
    | exact ok_underlying _ | exact ok_sizeOf _ | exact ok_zeroValue _ | exact ok_typeInfo _ | exact ok_asInt _ | exact ok_asIntOf _ | exact ok_asBool _ | exact ok_asAgg _ | exact ok_part _ _ _
    | exact ok_newVar _ _ | exact ok_newRow _ _ | exact ok_loadVar _ _ | exact ok_storeVar _ _ _ | exact ok_loadCells _ _ | exact ok_storeCells _ _ _ | exact ok_choose _ | exact ok_askRoom _ | exact ok_program | exact ok_shape _ | exact ok_frozen _ | exact ok_freeze _ _ | exact ok_getObj _ | exact ok_markNoRoom | exact ok_isAgg _
    | (refine ok_bd ?_ (fun _ => ?_))
    | (dsimp only; done)
    | split
    | dsimp only)
theorem ok_shift (o : BinOp) (k : IntKind) (x : Int) (k2 : IntKind) (y : Int) : ok P T (Op.shift o k x k2 y) := by
  unfold Op.shift
  repeat' (first
    | exact ok_pure _ | exact ok_stuck _ | exact ok_uns _ | exact ok_rtPanic _ | exact ok_bounds _ _ _ _ | exact ok_panic _
    | exact ok_underlying _ | exact ok_sizeOf _ | exact ok_zeroValue _ | exact ok_typeInfo _ | exact ok_asInt _ | exact ok_asIntOf _ | exact ok_asBool _ | exact ok_asAgg _ | exact ok_part _ _ _
    | exact ok_newVar _ _ | exact ok_newRow _ _ | exact ok_loadVar _ _ | exact ok_storeVar _ _ _ | exact ok_loadCells _ _ | exact ok_storeCells _ _ _ | exact ok_choose _ | exact ok_askRoom _ | exact ok_program | exact ok_shape _ | exact ok_frozen _ | exact ok_freeze _ _ | exact ok_getObj _ | exact ok_markNoRoom | exact ok_isAgg _
    | (refine ok_bd ?_ (fun _ => ?_))
    | (dsimp only; done)
    | split
    | dsimp only)
theorem ok_stringOp (o : BinOp) (x y : ByteArray) : ok P T (Op.stringOp o x y) := by
  unfold Op.stringOp
  repeat' (first
    | exact ok_pure _ | exact ok_stuck _ | exact ok_uns _ | exact ok_rtPanic _ | exact ok_bounds _ _ _ _ | exact ok_panic _
    | exact ok_underlying _ | exact ok_sizeOf _ | exact ok_zeroValue _ | exact ok_typeInfo _ | exact ok_asInt _ | exact ok_asIntOf _ | exact ok_asBool _ | exact ok_asAgg _ | exact ok_part _ _ _
    | exact ok_newVar _ _ | exact ok_newRow _ _ | exact ok_loadVar _ _ | exact ok_storeVar _ _ _ | exact ok_loadCells _ _ | exact ok_storeCells _ _ _ | exact ok_choose _ | exact ok_askRoom _ | exact ok_program | exact ok_shape _ | exact ok_frozen _ | exact ok_freeze _ _ | exact ok_getObj _ | exact ok_markNoRoom | exact ok_isAgg _
    | (refine ok_bd ?_ (fun _ => ?_))
    | (dsimp only; done)
    | split
    | dsimp only)
theorem ok_unary (o : UnOp) (x : Value) : ok P T (Op.unary o x) := by
  unfold Op.unary
  repeat' (first
    | exact ok_pure _ | exact ok_stuck _ | exact ok_uns _ | exact ok_rtPanic _ | exact ok_bounds _ _ _ _ | exact ok_panic _
    | exact ok_underlying _ | exact ok_sizeOf _ | exact ok_zeroValue _ | exact ok_typeInfo _ | exact ok_asInt _ | exact ok_asIntOf _ | exact ok_asBool _ | exact ok_asAgg _ | exact ok_part _ _ _
    | exact ok_newVar _ _ | exact ok_newRow _ _ | exact ok_loadVar _ _ | exact ok_storeVar _ _ _ | exact ok_loadCells _ _ | exact ok_storeCells _ _ _ | exact ok_choose _ | exact ok_askRoom _ | exact ok_program | exact ok_shape _ | exact ok_frozen _ | exact ok_freeze _ _ | exact ok_getObj _ | exact ok_markNoRoom | exact ok_isAgg _ | exact ok_intArith _ _ _ _ | exact ok_intBits _ _ _ _
    | (refine ok_bd ?_ (fun _ => ?_))
    | (dsimp only; done)
    | split
    | dsimp only)
theorem ok_len (ts : Array TypeId) (t : TypeId) (xs : Array Value) : ok P T (Builtin.len_ ts t xs) := by
  unfold Builtin.len_
  repeat' (first
    | exact ok_pure _ | exact ok_stuck _ | exact ok_uns _ | exact ok_rtPanic _ | exact ok_bounds _ _ _ _ | exact ok_panic _
    | exact ok_underlying _ | exact ok_sizeOf _ | exact ok_zeroValue _ | exact ok_typeInfo _ | exact ok_asInt _ | exact ok_asIntOf _ | exact ok_asBool _ | exact ok_asAgg _ | exact ok_part _ _ _
    | exact ok_newVar _ _ | exact ok_newRow _ _ | exact ok_loadVar _ _ | exact ok_storeVar _ _ _ | exact ok_loadCells _ _ | exact ok_storeCells _ _ _ | exact ok_choose _ | exact ok_askRoom _ | exact ok_program | exact ok_shape _ | exact ok_frozen _ | exact ok_freeze _ _ | exact ok_getObj _ | exact ok_markNoRoom | exact ok_isAgg _
    | (refine ok_bd ?_ (fun _ => ?_))
    | (dsimp only; done)
    | split
    | dsimp only)
theorem ok_lenOf (x : Value) : ok P T (Builtin.lenOf x) := by
  unfold Builtin.lenOf
  repeat' (first
    | exact ok_pure _ | exact ok_stuck _ | exact ok_uns _ | exact ok_rtPanic _ | exact ok_bounds _ _ _ _ | exact ok_panic _
    | exact ok_underlying _ | exact ok_sizeOf _ | exact ok_zeroValue _ | exact ok_typeInfo _ | exact ok_asInt _ | exact ok_asIntOf _ | exact ok_asBool _ | exact ok_asAgg _ | exact ok_part _ _ _
    | exact ok_newVar _ _ | exact ok_newRow _ _ | exact ok_loadVar _ _ | exact ok_storeVar _ _ _ | exact ok_loadCells _ _ | exact ok_storeCells _ _ _ | exact ok_choose _ | exact ok_askRoom _ | exact ok_program | exact ok_shape _ | exact ok_frozen _ | exact ok_freeze _ _ | exact ok_getObj _ | exact ok_markNoRoom | exact ok_isAgg _
    | (refine ok_bd ?_ (fun _ => ?_))
    | (dsimp only; done)
    | split
    | dsimp only)
theorem ok_firstCells (n m : Nat) (x : Value) : ok P T (Builtin.firstCells n m x) := by
  unfold Builtin.firstCells
  repeat' (first
    | exact ok_pure _ | exact ok_stuck _ | exact ok_uns _ | exact ok_rtPanic _ | exact ok_bounds _ _ _ _ | exact ok_panic _
    | exact ok_underlying _ | exact ok_sizeOf _ | exact ok_zeroValue _ | exact ok_typeInfo _ | exact ok_asInt _ | exact ok_asIntOf _ | exact ok_asBool _ | exact ok_asAgg _ | exact ok_part _ _ _
    | exact ok_newVar _ _ | exact ok_newRow _ _ | exact ok_loadVar _ _ | exact ok_storeVar _ _ _ | exact ok_loadCells _ _ | exact ok_storeCells _ _ _ | exact ok_choose _ | exact ok_askRoom _ | exact ok_program | exact ok_shape _ | exact ok_frozen _ | exact ok_freeze _ _ | exact ok_getObj _ | exact ok_markNoRoom | exact ok_isAgg _
    | (refine ok_bd ?_ (fun _ => ?_))
    | (dsimp only; done)
    | split
    | dsimp only)
theorem ok_holdsCells (a : Addr) (n : Nat) : ok P T (Builtin.holdsCells a n) := by
  unfold Builtin.holdsCells
  repeat' (first
    | exact ok_pure _ | exact ok_stuck _ | exact ok_uns _ | exact ok_rtPanic _ | exact ok_bounds _ _ _ _ | exact ok_panic _
    | exact ok_underlying _ | exact ok_sizeOf _ | exact ok_zeroValue _ | exact ok_typeInfo _ | exact ok_asInt _ | exact ok_asIntOf _ | exact ok_asBool _ | exact ok_asAgg _ | exact ok_part _ _ _
    | exact ok_newVar _ _ | exact ok_newRow _ _ | exact ok_loadVar _ _ | exact ok_storeVar _ _ _ | exact ok_loadCells _ _ | exact ok_storeCells _ _ _ | exact ok_choose _ | exact ok_askRoom _ | exact ok_program | exact ok_shape _ | exact ok_frozen _ | exact ok_freeze _ _ | exact ok_getObj _ | exact ok_markNoRoom | exact ok_isAgg _
    | (refine ok_bd ?_ (fun _ => ?_))
    | (dsimp only; done)
    | split
    | dsimp only)
theorem ok_mayShare (a b c : Nat) (o : Option Addr) (x : Value) : ok P T (Builtin.mayShare a b c o x) := by
  unfold Builtin.mayShare
  repeat' (first
    | exact ok_pure _ | exact ok_stuck _ | exact ok_uns _ | exact ok_rtPanic _ | exact ok_bounds _ _ _ _ | exact ok_panic _
    | exact ok_underlying _ | exact ok_sizeOf _ | exact ok_zeroValue _ | exact ok_typeInfo _ | exact ok_asInt _ | exact ok_asIntOf _ | exact ok_asBool _ | exact ok_asAgg _ | exact ok_part _ _ _
    | exact ok_newVar _ _ | exact ok_newRow _ _ | exact ok_loadVar _ _ | exact ok_storeVar _ _ _ | exact ok_loadCells _ _ | exact ok_storeCells _ _ _ | exact ok_choose _ | exact ok_askRoom _ | exact ok_program | exact ok_shape _ | exact ok_frozen _ | exact ok_freeze _ _ | exact ok_getObj _ | exact ok_markNoRoom | exact ok_isAgg _ | exact ok_holdsCells _ _
    | (refine ok_bd ?_ (fun _ => ?_))
    | (dsimp only; done)
    | split
    | dsimp only)
theorem ok_ite {α : Type} {C : α → Prop} {c : Prop} [Decidable c] {a b : Sem α} (ha : ok P C a) (hb : ok P C b) : ok P C (if c then a else b) := by
  by_cases h : c
  · rw [if_pos h]; exact ha
  · rw [if_neg h]; exact hb
theorem ok_intToInt (k : IntKind) (n : Int) : ok P T (Conv.intToInt k n) := by
  unfold Conv.intToInt
  repeat' (first
    | exact ok_pure _ | exact ok_stuck _ | exact ok_uns _ | exact ok_rtPanic _ | exact ok_bounds _ _ _ _ | exact ok_panic _
    | exact ok_underlying _ | exact ok_sizeOf _ | exact ok_zeroValue _ | exact ok_typeInfo _ | exact ok_asInt _ | exact ok_asIntOf _ | exact ok_asBool _ | exact ok_asAgg _ | exact ok_part _ _ _
    | exact ok_newVar _ _ | exact ok_newRow _ _ | exact ok_loadVar _ _ | exact ok_storeVar _ _ _ | exact ok_loadCells _ _ | exact ok_storeCells _ _ _ | exact ok_choose _ | exact ok_askRoom _ | exact ok_program | exact ok_shape _ | exact ok_frozen _ | exact ok_freeze _ _ | exact ok_getObj _ | exact ok_markNoRoom | exact ok_isAgg _
    | (refine ok_bd ?_ (fun _ => ?_))
    | (dsimp only; done)
    | split
    | dsimp only)
end
end Cc
end Go.Proofs.Ytbioidbbijmnjaa
