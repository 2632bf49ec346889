/-
  CcReg: a region, or an operation, that the lone walk tells, between frames; what is left of a text.
-/
import Derived.Test.YtbioidbbijmnjaaCcCutC
import Derived.Test.YtbioidbbijmnjaaCopy
namespace Go.Proofs.Ytbioidbbijmnjaa
set_option linter.unusedVariables false
set_option linter.unusedSimpArgs false
open Go.Conc Go.ChangeShapes Go.WideShapes Go.ChangeAt Go.RowKit
namespace Cc
section
variable {P : Program} {L : List FuncId} {w : World} {Φ : Goroutine → World → Prop} {b : Frame} {a : Act} {k : List Item} {cs : List Frame} {ops : Array Oper} {i : Nat} {rest : List Nat} {o : Oper}
/-- one operation that makes memory -/
theorem BW.op1 {Rr : Act → World → Prop} (hP : OkProg P L) (ho : ops[i]? = some o) (hk : b.kind ≠ .early) (hok : okOp P [] o.op = true) (hw : ∀ τ d, wpList P ops (fun e a w => e = .normal ∧ Rr a w) [o] a (tp w τ d)) (hR : ∀ a w τ d, Rr a w → Rr a (tp w τ d))
    (hn : ∀ a' w', Rr a' w' → BW P (G (b.at a' (.inRegion ops rest :: k)) cs) w' Φ) : BW P (G (b.at a (.inRegion ops (i :: rest) :: k)) cs) w Φ := by
  have hpos : ∀ j, j < [o].length → [o][j]? = ops[i + j]? := fun j hj => by
    have : j = 0 := by simpa using hj
    subst this
    simpa using ho.symm
  have := BW.ops (rest := rest) (k := k) (cs := cs) (Φ := Φ) [o] i hk hP hpos (by simpa using hok) hw hR hn
  simpa using this
theorem BW.opv (v : Value) {Rw : World → Prop} (hP : OkProg P L) (ho : ops[i]? = some o) (hk : b.kind ≠ .early) (hok : okOp P [] o.op = true) (hw : ∀ τ d, wpList P ops (fun e x y => e = .normal ∧ x = a.put o.dst v ∧ Rw y) [o] a (tp w τ d)) (hR : ∀ w τ d, Rw w → Rw (tp w τ d))
    (hn : ∀ w', Rw w' → BW P (G (b.at (a.put o.dst v) (.inRegion ops rest :: k)) cs) w' Φ) : BW P (G (b.at a (.inRegion ops (i :: rest) :: k)) cs) w Φ :=
  BW.op1 (Rr := fun x y => x = a.put o.dst v ∧ Rw y) hP ho hk hok hw (fun _ _ _ _ h => ⟨h.1, hR _ _ _ h.2⟩) fun _ _ h => h.1 ▸ hn _ h.2
/-- a region without calls: the world stands -/
theorem BW.regionStill {id : Nat} {l : List Oper} (a' : Act) (hP : OkProg P L) (hk : b.kind ≠ .early) (hok : (l.all fun o => okOp P [] o.op) = true)
    (hw : ∀ τ d, wpList P l.toArray (fun e x y => e = .normal ∧ x = a' ∧ y = tp w τ d) l a (tp w τ d)) (hn : BW P (G (b.at a' k) cs) w Φ) : BW P (G (b.at a (.code (.region id l.toArray false) :: k)) cs) w Φ := by
  refine BW.region ?_
  have := BW.still (ops := l.toArray) (rest := []) (k := k) (cs := cs) (Φ := Φ) a' l 0 hk hP (fun j hj => by simp) hok hw (BW.rend hn)
  simpa using this
end
theorem bodyPost_mono {P : Program} {fn : Func} {R R' : Value → World → Prop} (h : ∀ v w, R v w → R' v w) {e : Exit} {a : Act} {w : World} (hq : bodyPost P fn (fun e w' => ∃ v, e = .returned v ∧ R v w') e a w) : bodyPost P fn (fun e w' => ∃ v, e = .returned v ∧ R' v w') e a w := by
  cases e with
  | normal => obtain ⟨h1, v, h2, v', h3, h4⟩ := hq; exact ⟨h1, v, h2, v', h3, h _ _ h4⟩
  | ret => obtain ⟨h1, v, h2, v', h3, h4⟩ := hq; exact ⟨h1, v, h2, v', h3, h _ _ h4⟩
  | panic ch => obtain ⟨h1, v, h3, _⟩ := hq; cases h3
  | outgrown => obtain ⟨v, h3, _⟩ := hq; cases h3
  | exit id => exact hq.elim
  | goto l => exact hq.elim
/-- a slice of bytes that is owned and new, whatever the tape -/
def NewB (w : World) (l : List UInt8) (v : Value) (w' : World) : Prop := ∃ a n c, v = .slice a n c ∧ w'.ownsRow w.heap.size 5 1 (.slice a n c) n (l.map u8v) ∧ Bel w w'
theorem NewB.tp {w w' : World} {l : List UInt8} {v : Value} (h : NewB w l v w') (τ : Nat → Question → Nat) (d : Nat) : NewB w l v (tp w' τ d) := by
  obtain ⟨a, n, c, h1, h2, h3⟩ := h
  exact ⟨a, n, c, h1, h2, h3.tp τ d⟩
theorem newB_of {w : World} {l : List UInt8} {τ : Nat → Question → Nat} {d : Nat} {e : Ending} {w' : World} (h : NewBs (Cc.tp w τ d) l e w') : ∃ v, e = .returned v ∧ NewB w l v w' := by
  obtain ⟨a, n, c, rfl, h2, h3⟩ := h
  exact ⟨_, rfl, a, n, c, rfl, h2, .of_tp h3⟩
theorem Bel.frame {w w' : World} (h : Bel w w') (may : MemPlace → Prop) : w.keptBut w' may := by
  refine ⟨h.os, h.output, fun i hi => ?_⟩
  have : w'.heap[i]? = w.heap[i]? := h.block i hi
  rw [this]
  split <;> simp_all
theorem Bel.trod {H : Type} {enc : TypeId × Value → H} {P : Program} {t : TypeId} (hl : laidOutB P = true) (hr : P.readableRec t = true) (hrow : t < P.types.size) {W W' : World} {v : Value} {d : DataW H} {ps : List MemPlace}
    (h : DataW.Trod enc P W 0 (fun _ => true) true t v d ps) (hb : Bel W W') (hlt : ∀ x ∈ ps, x.block < W.heap.size) : DataW.Trod enc P W' 0 (fun b => decide (b < W.heap.size)) true t v d ps :=
  Below.trod (W := Cc.tp W W'.tape W'.drawn) hl hr hrow (DataW.Trod.of_heap (w' := Cc.tp W W'.tape W'.drawn) (show W.heap = (Cc.tp W W'.tape W'.drawn).heap from rfl) h) hb hlt
end Cc
end Go.Proofs.Ytbioidbbijmnjaa
