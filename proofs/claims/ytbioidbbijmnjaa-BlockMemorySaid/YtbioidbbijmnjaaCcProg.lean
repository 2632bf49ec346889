/-
  CcProg: the functions that Block's laws call beside Cut are ordinary.
-/
import Derived.Test.YtbioidbbijmnjaaCcCode
import Derived.Test.YtbioidbbijmnjaaProg
import Derived.ProofKit
namespace Go.Proofs.Ytbioidbbijmnjaa
set_option linter.unusedVariables false
open Go.Conc
namespace Cc
def okProgB (P : Program) (L : List FuncId) : Bool := (L.all fun f => match P.funcs[f]? with
  | some fn => match fn.body with
    | some c => okCode P L c
    | none => true
  | none => true) && P.funcs.all fun f => ((f.body.map readies).getD []).isEmpty
theorem okProg_of {P : Program} {L : List FuncId} (h : okProgB P L = true) : OkProg P L := by
  unfold okProgB at h
  rw [Bool.and_eq_true, List.all_eq_true, Array.all_eq_true_iff_forall_mem] at h
  refine ⟨fun f hf fn c hfn hb => ?_, fun g => ?_⟩
  · unfold okFun at hf
    rw [Bool.and_eq_true] at hf
    have := h.1 f (by simpa using hf.1)
    rw [hfn] at this
    simp only [hb] at this
    exact this
  · unfold Program.stepOf
    rw [Array.findIdx?_eq_none_iff]
    intro f hf
    have := h.2 f hf
    cases hb : f.body with
    | none => rfl
    | some c =>
      rw [hb] at this
      simp only [Option.map_some, Option.getD_some, List.isEmpty_iff] at this
      simp [this]
def LL : List FuncId := [7, 8, 9, 10, 11, 12, 13]
theorem okp : OkProg Try.prog LL := okProg_of (by kernel_rfl)
end Cc
end Go.Proofs.Ytbioidbbijmnjaa
