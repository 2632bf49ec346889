/-
  CcTab: which operations of a program are ordinary, by their kind; what an ordinary operation goes on with.
-/
import Derived.Test.YtbioidbbijmnjaaCcEq
namespace Go.Proofs.Ytbioidbbijmnjaa
set_option linter.unusedVariables false
set_option linter.unusedSimpArgs false
open Go.Conc
namespace Cc
/-- a function that an ordinary call may enter -/
def okFun (P : Program) (L : List FuncId) (f : FuncId) : Bool := L.contains f && (match P.funcs[f]? with | some fn => fn.name != "runtime.NumGoroutine" && fn.body.isSome | none => false)
def okDesc : Option TypeDesc → Bool
  | some .unsafePointer => false
  | some _ => true
  | none => false
def okOp (P : Program) (L : List FuncId) : Op → Bool
  | .move _ | .assign _ | .pick .. | .alloc _ | .box .. | .buildSlice .. | .load .. | .store .. | .binOp .. | .unOp .. | .makeSlice .. | .slice .. | .indexAddr .. | .index .. | .extract .. | .sliceToArrayPointer .. | .field .. => true
  | .build t _ => match P.underlying t with
    | some (.array _ _) => true
    | _ => false
  | .convert s d _ => okDesc (P.underlying s) && okDesc (P.underlying d)
  | .call c => match c.callee with
    | .builtin .len | .builtin .append | .builtin .min => true
    | .value (.func f) => okFun P L f
    | _ => false
  | _ => false
/-- what an ordinary operation goes on with -/
def OutN (P : Program) (L : List FuncId) : Next → Prop
  | .value _ | .skip => True
  | .enter f _ => okFun P L f = true
  | _ => False
section
variable {P : Program} {L : List FuncId}
theorem ok_under {α : Type} {D : α → Prop} {t : TypeId} {d : TypeDesc} {f : TypeDesc → Sem α} (h : P.underlying t = some d) (hf : ok P D (f d)) : ok P D (underlying t >>= f) := by
  show ok P D ((underlying t).bind f)
  have : ok P (fun x => x = d) (underlying t) := by
    show ok P (fun x => x = d) (program >>= fun p => _)
    show ok P (fun x => x = d) (match P.underlying t with | some d => pure d | none => stuck "no such type")
    rw [h]
    exact rfl
  exact ok_bind (fun a ha => by subst ha; exact hf) this
theorem ok_v {s : Sem Value} (h : ok P T s) : ok P (OutN P L) (do pure (.value (← s))) := by
  show ok P (OutN P L) (s.bind fun a => .pure (.value a))
  exact ok_bind (P := P) (C := T) (D := OutN P L) (f := fun a => Sem.pure (Next.value a)) (fun a _ => (trivial : OutN P L (.value a))) h
theorem ok_u {s : Sem Unit} (h : ok P T s) : ok P (OutN P L) (do s; pure .skip) := by
  show ok P (OutN P L) (s.bind fun _ => .pure .skip)
  exact ok_bind (P := P) (C := T) (D := OutN P L) (f := fun _ => Sem.pure Next.skip) (fun a _ => (trivial : OutN P L .skip)) h
theorem ok_floatToInt (k : FloatKind) (n : Nat) (d : IntKind) : ok P T (Conv.floatToInt k n d) := by
  unfold Conv.floatToInt
  dsimp only
  split
  · refine ok_ite (ok_pure _) (ok_bd (ok_choose _) fun _ => ok_pure _)
  · exact ok_bd (ok_choose _) fun _ => ok_pure _
theorem ok_complexToComplex (k : FloatKind) (a b : Nat) (d : FloatKind) : ok P T (Conv.complexToComplex k a b d) := by
  unfold Conv.complexToComplex
  refine ok_bd (ok_floatToFloat _ _ _) fun v => ?_
  split
  · refine ok_bd (ok_floatToFloat _ _ _) fun v => ?_
    split
    · exact ok_pure _
    · exact ok_stuck _
  · exact ok_stuck _
theorem ok_stringToRunes (e : TypeId) (s : ByteArray) : ok P T (Conv.stringToRunes e s) := ok_bd (ok_choose _) fun _ => ok_bd (ok_newRow _ _) fun _ => ok_pure _
theorem ok_runesToString (x : Value) : ok P T (Conv.runesToString x) := by
  unfold Conv.runesToString
  split
  · exact ok_pure _
  · refine ok_bd (ok_loadCells _ _) fun cs => ok_bd (ok_forInA (fun c s => ?_) _ _) fun _ => ok_pure _
    split
    · exact ok_bd (ok_pure _) fun _ => ok_pure _
    · exact ok_stuck _
  · exact ok_stuck _
set_option maxHeartbeats 4000000 in
theorem ok_convert {s d : TypeId} (hs : okDesc (P.underlying s) = true) (hd : okDesc (P.underlying d) = true) (x : Value) : ok P T (convert s d x) := by
  unfold convert
  cases hs' : P.underlying s with
  | none => rw [hs'] at hs; cases hs
  | some ds =>
    cases hd' : P.underlying d with
    | none => rw [hd'] at hd; cases hd
    | some dd =>
      rw [hs'] at hs; rw [hd'] at hd
      refine ok_under hs' (ok_under hd' ?_)
      split
      · exact ok_intToInt _ _
      · exact ok_intToFloat _ _
      · exact ok_floatToInt _ _ _
      · exact ok_floatToFloat _ _ _
      · exact ok_complexToComplex _ _ _ _
      · exact ok_pure _
      · exact ok_pure _
      · refine ok_bd (ok_underlying _) fun u => ?_
        split
        · exact ok_stringToBytes _ _
        · exact ok_stringToRunes _ _
        · exact ok_stuck _
      · refine ok_bd (ok_underlying _) fun u => ?_
        split
        · exact ok_bd (ok_markStringish _) fun _ => ok_pure _
        · exact ok_uns _
      · refine ok_bd (ok_underlying _) fun u => ?_
        split
        · exact ok_bytesToString _
        · exact ok_runesToString _
        · exact ok_stuck _
      · cases hs
      · cases hd
      · exact ok_uns _
      · exact ok_uns _
theorem ok_callFunc {f : FuncId} (h : okFun P L f = true) (args : Array Value) : ok P (OutN P L) (callFunc f args) := by
  have h0 := h
  unfold okFun at h0
  rw [Bool.and_eq_true] at h0
  cases hf : P.funcs[f]? with
  | none => rw [hf] at h0; simp at h0
  | some fn =>
    rw [hf] at h0
    simp only [Bool.and_eq_true, bne_iff_ne, ne_eq] at h0
    unfold callFunc
    show ok P (OutN P L) (match P.funcs[f]? with | none => _ | some fn => _)
    rw [hf]
    have h1 : (fn.name == "runtime.NumGoroutine") = false := by simpa using h0.2.1
    have h2 : fn.body.isNone = false := by cases hb : fn.body with | none => rw [hb] at h0; simp at h0 | some b => rfl
    simp only [h1, h2, Bool.false_eq_true, if_false]
    exact h
theorem ok_build {t : TypeId} {n : Nat} {e : TypeId} (h : P.underlying t = some (.array n e)) (ps : Array (Nat × Value)) : ok P T (Instr.build t ps) := by
  unfold Instr.build
  refine ok_bd (ok_zeroValue _) fun _ => ?_
  refine ok_under h ?_
  refine ok_bd (ok_sizeOf _) fun _ => ?_
  split
  · exact ok_pure _
  · exact ok_stuck _
theorem ok_execOp {ρ : Operand → Value} {o : Oper} (hρ : ∀ f, ρ (.func f) = .func (.func f) #[] #[]) (h : okOp P L o.op = true) : ok P (OutN P L) (execOp ρ o) := by
  unfold execOp
  dsimp only
  cases ho : o.op <;> rw [ho] at h <;> first | (cases h; done) | skip
  all_goals dsimp only
  all_goals first
    | exact (trivial : True)
    | exact ok_v (ok_alloc _ _ _)
    | exact ok_v (ok_box _ _)
    | exact ok_v (ok_buildSlice _ _ _)
    | exact ok_v (ok_loadAt _ _)
    | exact ok_u (ok_storeAt _ _ _)
    | exact ok_v (ok_bd (ok_eqGuard _ _ _ _ _ _) fun _ => ok_binOp _ _ _ _)
    | exact ok_v (ok_unary _ _)
    | exact ok_v (ok_makeSlice _ _ _)
    | exact ok_v (ok_sliceAt _ _ _ _ _)
    | exact ok_v (ok_indexAt _ _ _)
    | exact ok_v (ok_index _ _ _)
    | exact ok_v (ok_extract _ _)
    | exact ok_v (ok_arrayAt _ _)
    | exact ok_v (ok_field _ _ _)
    | (unfold okOp at h; rw [Bool.and_eq_true] at h; exact ok_v (ok_convert h.1 h.2 _))
    | skip
  · rename_i c a b
    show ok P (OutN P L) ((asBool (ρ c)).bind fun t => .pure (.value (if t = true then ρ a else ρ b)))
    exact ok_bind (P := P) (C := T) (D := OutN P L) (f := fun t => Sem.pure (Next.value (if t = true then ρ a else ρ b))) (fun t _ => (trivial : OutN P L (.value (if t = true then ρ a else ρ b)))) (ok_asBool _)
  · rename_i t ps
    unfold okOp at h
    dsimp only at h
    cases hu : P.underlying t with
    | none => rw [hu] at h; cases h
    | some d =>
      rw [hu] at h
      cases d <;> first | (cases h; done) | exact ok_v (ok_build hu _)
  · rename_i c
    unfold okOp at h
    unfold resolve
    dsimp only at h ⊢
    cases hc : c.callee with
    | builtin b =>
      rw [hc] at h
      cases b <;> first | (cases h; done) | skip
      · exact ok_v (ok_append _ _ _)
      · exact ok_v (ok_len _ _ _)
      · exact ok_v (ok_min _ _ _)
    | invoke r m => rw [hc] at h; cases h
    | value f =>
      rw [hc] at h
      cases f <;> first | (cases h; done) | skip
      rename_i f
      show ok P (OutN P L) (Deferred.ofValue (ρ (.func f)) (c.args.map ρ) >>= fun d => invoke d.target d.args)
      rw [hρ]
      exact ok_callFunc h _
end
end Cc
end Go.Proofs.Ytbioidbbijmnjaa
