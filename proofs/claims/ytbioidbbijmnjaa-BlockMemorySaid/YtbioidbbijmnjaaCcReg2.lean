/-
  CcReg2: an operation whose value is told by what holds of it; the way's end at a return of the text's own.
-/
import Derived.Test.YtbioidbbijmnjaaCcReg
namespace Go.Proofs.Ytbioidbbijmnjaa
set_option linter.unusedVariables false
set_option linter.unusedSimpArgs false
open Go.Conc Go.ChangeShapes Go.WideShapes Go.ChangeAt Go.RowKit
namespace Cc
section
variable {P : Program} {L : List FuncId} {w : World} {Φ : Goroutine → World → Prop} {b : Frame} {a : Act} {k : List Item} {cs : List Frame} {ops : Array Oper} {i : Nat} {rest : List Nat} {o : Oper}
theorem BW.ope {Rv : Value → World → Prop} (hP : OkProg P L) (ho : ops[i]? = some o) (hk : b.kind ≠ .early) (hok : okOp P [] o.op = true) (hw : ∀ τ d, wpList P ops (fun e x y => e = .normal ∧ ∃ v, x = a.put o.dst v ∧ Rv v y) [o] a (tp w τ d)) (hR : ∀ v w τ d, Rv v w → Rv v (tp w τ d))
    (hn : ∀ v w', Rv v w' → BW P (G (b.at (a.put o.dst v) (.inRegion ops rest :: k)) cs) w' Φ) : BW P (G (b.at a (.inRegion ops (i :: rest) :: k)) cs) w Φ :=
  BW.op1 (Rr := fun x y => ∃ v, x = a.put o.dst v ∧ Rv v y) hP ho hk hok hw (fun _ _ _ _ h => let ⟨v, h1, h2⟩ := h; ⟨v, h1, hR _ _ _ _ h2⟩) fun _ _ h => by
    obtain ⟨v, rfl, h2⟩ := h
    exact hn v _ h2
theorem BW.ends {f : FuncId} {fn : Func} {tmps : Array Value} {todo : List Item} {v : Value} {Post : Value → World → Prop} (hf : P.funcs[f]? = some fn) (hi : P.inits.idxOf? f = none) (hres : ∀ w, (results fn tmps).run P w = .ok v w) (hp : ∀ d, Post v (w.at d)) :
    BW P (G { (base f).at ⟨tmps, []⟩ todo with mode := .returning } []) w (Ends P Post) :=
  .done fun d => ⟨f, tmps, todo, fn, v, rfl, hf, hi, fun d' => ⟨hres _, hp d'⟩⟩
end
theorem zeros_bs (w : World) (n : Nat) (hn : n ≤ 140737488355328) (τ : Nat → Question → Nat) (d : Nat) : Bs ((tp w τ d).alloc (.cells (rowA (List.replicate n 0)) 5)) (some ⟨w.heap.size, 0, none⟩) n n (List.replicate n 0) := by
  have := isSl_new (tp w τ d) 5 1 n (rowA (List.replicate n 0)) (by rw [rowA_size, List.length_replicate, Nat.mul_one]) (by unfold maxLen; omega)
  rw [show (rowA (List.replicate n 0)).toList = (List.replicate n 0).map u8v from rfl] at this
  exact this
end Cc
end Go.Proofs.Ytbioidbbijmnjaa
