/-
  HdrNum: the numbers of a header block, one behind the other; the worlds of header.Read.
-/
import Derived.Test.YtjchaogfmnabfaaDoorHdrRead
namespace Go.Proofs.YtjchaogfmnabfaaDoor
set_option linter.unusedVariables false
set_option linter.unusedSimpArgs false
open Go.ChangeShapes Go.WideShapes Go.ChangeAt Go.RowKit
/-- the number of place k -/
def nAt (l : List UInt8) (k : Nat) : Int × Int := numAt l (fieldAt k).1 (fieldAt k).2.1
def okAt (l : List UInt8) (k : Nat) : Bool := numOk (nAt l k) (fieldAt k).2.2.1 (fieldAt k).2.2.2
theorem numsOk_eq (l : List UInt8) : numsOk l = (okAt l 0 && okAt l 1 && okAt l 2 && okAt l 3 && okAt l 4 && (!isDev l || (okAt l 5 && okAt l 6))) := rfl
theorem numsOk_bad (l : List UInt8) (k : Nat) (hk : k < 7) (h5 : k < 5 ∨ isDev l = true) (h : okAt l k = false) : numsOk l = false := by
  rw [numsOk_eq]
  rcases (by omega : k = 0 ∨ k = 1 ∨ k = 2 ∨ k = 3 ∨ k = 4 ∨ k = 5 ∨ k = 6) with rfl | rfl | rfl | rfl | rfl | rfl | rfl
  · simp [h]
  · simp [h]
  · simp [h]
  · simp [h]
  · simp [h]
  · simp [h, h5.resolve_left (by decide)]
  · simp [h, h5.resolve_left (by decide)]
theorem numsOk_good (l : List UInt8) (k : Nat) (hk : k = 7 ∨ (k = 5 ∧ isDev l = false)) (h : ∀ j, j < k → okAt l j = true) : numsOk l = true := by
  rw [numsOk_eq]
  rcases hk with rfl | ⟨rfl, hd⟩
  · rw [h 0 (by decide), h 1 (by decide), h 2 (by decide), h 3 (by decide), h 4 (by decide), h 5 (by decide), h 6 (by decide)]; simp
  · rw [h 0 (by decide), h 1 (by decide), h 2 (by decide), h 3 (by decide), h 4 (by decide), hd]; simp
theorem okAt_iff (l : List UInt8) (k : Nat) : okAt l k = true ↔ (nAt l k).2 = 0 ∧ (fieldAt k).2.2.1 ≤ (nAt l k).1 ∧ (nAt l k).1 ≤ (fieldAt k).2.2.2 := by unfold okAt numOk; simp
theorem fieldAt_bd (k : Nat) (h : k < 7) : (fieldAt k).1 ≤ (fieldAt k).2.1 ∧ (fieldAt k).2.1 ≤ 345 ∧ (fieldAt k).1 < 345 := by
  rcases (by omega : k = 0 ∨ k = 1 ∨ k = 2 ∨ k = 3 ∨ k = 4 ∨ k = 5 ∨ k = 6) with rfl | rfl | rfl | rfl | rfl | rfl | rfl <;> decide
/-- the numbers that have been read -/
def vTo (l : List UInt8) (k : Nat) : List Int := (List.range 7).map fun j => if j < k then (nAt l j).1 else 0
theorem vTo_len (l : List UInt8) (k : Nat) : (vTo l k).length = 7 := by simp [vTo]
theorem vTo_set (l : List UInt8) (k : Nat) (h : k < 7) : (vTo l k).set k (nAt l k).1 = vTo l (k + 1) := by
  apply List.ext_getElem (by simp [vTo])
  intro i h1 h2
  simp only [vTo, List.length_map, List.length_range] at h2
  rw [List.getElem_set]
  simp only [vTo, List.getElem_map, List.getElem_range]
  by_cases e : k = i
  · subst e; simp
  · rw [if_neg e]
    by_cases h3 : i < k
    · rw [if_pos h3, if_pos (by omega)]
    · rw [if_neg h3, if_neg (by omega)]
def vC (vs : List Int) : Array Value := (vs.map (Value.int .i64)).toArray
theorem vC_size (vs : List Int) : (vC vs).size = vs.length := by simp [vC]
theorem vC_set (vs : List Int) (k : Nat) (x : Int) : (vC vs).setIfInBounds k (.int .i64 x) = vC (vs.set k x) := by simp [vC, List.map_set]
theorem vC_at (vs : List Int) (k : Nat) (h : k < vs.length) : (vC vs)[k]? = some (.int .i64 (vs.getD k 0)) := by simp [vC, List.getD, List.getElem?_eq_getElem h]
/-- the block, the result's variable, the header's variable -/
structure H3 (w : World) (l : List UInt8) (gh : Nat) (h : Hd) (wr : World) : Prop where
  two : H2 w l wr
  ge : w.heap.size + 2 ≤ gh
  rh : wr.heap[gh]? = some (.cells (hdC h) 43 (0, 0))
theorem H3.lt {w wr : World} {l : List UInt8} {gh : Nat} {h : Hd} (k : H3 w l gh h wr) : gh < wr.heap.size := (Array.getElem?_eq_some_iff.1 k.rh).1
theorem H3.keep {w wr w' : World} {l : List UInt8} {gh : Nat} {h : Hd} (x : H3 w l gh h wr) (k : Below wr.heap.size wr w') : H3 w l gh h w' :=
  ⟨x.two.keep k, x.ge, by rw [k.block _ x.lt]; exact x.rh⟩
theorem H3.cell {w wr : World} {l : List UInt8} {gh : Nat} {h : Hd} (x : H3 w l gh h wr) (k : Nat) : wr.cell? ⟨gh, k, none⟩ = (hdC h)[k]? := by rw [cell_of_row _ _ _ _ _ _ x.rh]
theorem H3.free {w wr : World} {l : List UInt8} {gh : Nat} {h : Hd} (x : H3 w l gh h wr) (k : Nat) : wr.frozen? ⟨gh, k, none⟩ = false := frozen_of_row _ _ _ _ _ x.rh
theorem H2.setOther {w wr : World} {l : List UInt8} (x : H2 w l wr) {g k : Nat} (hg : w.heap.size + 2 ≤ g) (v : Value) : H2 w l (wr.setCell ⟨g, k, none⟩ v) := by
  refine ⟨x.bel.setCell (show w.heap.size ≤ (⟨g, k, none⟩ : Addr).block from by simp only; omega) v, ?_, ?_⟩
  · rw [heap_setCell_other _ _ _ _ (by simp only; omega)]; exact x.r0
  · rw [heap_setCell_other _ _ _ _ (by simp only; omega)]; exact x.r1
theorem H3.set {w wr : World} {l : List UInt8} {gh : Nat} {h h' : Hd} (x : H3 w l gh h wr) (k : Nat) (v : Value) (e : (hdC h).setIfInBounds k v = hdC h') : H3 w l gh h' (wr.setCell ⟨gh, k, none⟩ v) :=
  ⟨x.two.setOther x.ge v, x.ge, by rw [heap_setCell_same _ _ _ _ _ _ x.rh, e]⟩
theorem H3.drew {w wr : World} {l : List UInt8} {gh : Nat} {h : Hd} (x : H3 w l gh h wr) : H3 w l gh h wr.drew := x.keep ((Below.refl _ _).drew)
/-- and the numbers' variable -/
structure H4 (w : World) (l : List UInt8) (gh : Nat) (h : Hd) (gv : Nat) (vs : List Int) (wr : World) : Prop where
  three : H3 w l gh h wr
  ge : gh < gv
  rv : wr.heap[gv]? = some (.cells (vC vs) 66 (0, 0))
theorem H4.lt {w wr : World} {l : List UInt8} {gh : Nat} {h : Hd} {gv : Nat} {vs : List Int} (k : H4 w l gh h gv vs wr) : gv < wr.heap.size := (Array.getElem?_eq_some_iff.1 k.rv).1
theorem H4.keep {w wr w' : World} {l : List UInt8} {gh : Nat} {h : Hd} {gv : Nat} {vs : List Int} (x : H4 w l gh h gv vs wr) (k : Below wr.heap.size wr w') : H4 w l gh h gv vs w' :=
  ⟨x.three.keep k, x.ge, by rw [k.block _ x.lt]; exact x.rv⟩
theorem H4.cell {w wr : World} {l : List UInt8} {gh : Nat} {h : Hd} {gv : Nat} {vs : List Int} (x : H4 w l gh h gv vs wr) (k : Nat) (hk : k < vs.length) : wr.cell? ⟨gv, k, none⟩ = some (.int .i64 (vs.getD k 0)) := by
  rw [cell_of_row _ _ _ _ _ _ x.rv, vC_at _ _ hk]
theorem H4.free {w wr : World} {l : List UInt8} {gh : Nat} {h : Hd} {gv : Nat} {vs : List Int} (x : H4 w l gh h gv vs wr) (k : Nat) : wr.frozen? ⟨gv, k, none⟩ = false := frozen_of_row _ _ _ _ _ x.rv
theorem H4.put {w wr : World} {l : List UInt8} {gh : Nat} {h : Hd} {gv : Nat} {vs : List Int} (x : H4 w l gh h gv vs wr) (k : Nat) (v : Int) : H4 w l gh h gv (vs.set k v) (wr.setCell ⟨gv, k, none⟩ (.int .i64 v)) := by
  have h1 := x.three.ge
  have h2 := x.ge
  exact ⟨⟨x.three.two.setOther (by omega) _, x.three.ge, by rw [heap_setCell_other _ _ _ _ (by simp only; omega)]; exact x.three.rh⟩, x.ge, by rw [heap_setCell_same _ _ _ _ _ _ x.rv, vC_set]⟩
theorem H4.set {w wr : World} {l : List UInt8} {gh : Nat} {h h' : Hd} {gv : Nat} {vs : List Int} (x : H4 w l gh h gv vs wr) (k : Nat) (v : Value) (e : (hdC h).setIfInBounds k v = hdC h') : H4 w l gh h' gv vs (wr.setCell ⟨gh, k, none⟩ v) := by
  have h2 := x.ge
  exact ⟨x.three.set k v e, x.ge, by rw [heap_setCell_other _ _ _ _ (by simp only; omega)]; exact x.rv⟩
theorem index_fields (k : Nat) (hk : k < 7) (w : World) : (Instr.index 69 (.agg fieldsA) (.int .i64 (k : Int))).run Tryd.prog w = .ok (.agg (fieldV k).toArray) w := by
  rcases (by omega : k = 0 ∨ k = 1 ∨ k = 2 ∨ k = 3 ∨ k = 4 ∨ k = 5 ∨ k = 6) with rfl | rfl | rfl | rfl | rfl | rfl | rfl <;> kernel_rfl
section
variable {P : Program} {ops : Array Oper} {rest : List Oper} {o : Oper} {a : Act} {w : World} {Q : Exit → Act → World → Prop}
theorem wpList_index_at (hgd : o.guard = none) (t : TypeId) (y x : Operand) (ho : o.op = .index t y x) {vy vx : Value} (hy : a.eval y = vy) (hx : a.eval x = vx) (v : Value) (hr : (Instr.index t vy vx).run P w = .ok v w)
    (h : wpList P ops Q rest (a.put o.dst v) w) : wpList P ops Q (o :: rest) a w := by
  refine wpList_value hgd _ _ ?_ h
  simp [execOp, ho, hy, hx, hr, Result.andThen]
end
end Go.Proofs.YtjchaogfmnabfaaDoor
