/-
  Arrs: parts of arrays of bytes as slices. No program is needed here.
-/
import Derived.Test.YtbioidbbijmnjaaRowl
namespace Go.Proofs.Ytbioidbbijmnjaa
set_option linter.unusedVariables false
set_option linter.unusedSimpArgs false
open Go.ChangeShapes Go.WideShapes Go.ChangeAt Go.RowKit
/-- the cells of a row of bytes -/
def rowA (l : List UInt8) : Array Value := (l.map u8v).toArray
theorem rowA_size (l : List UInt8) : (rowA l).size = l.length := by simp [rowA]
theorem rowA_one (l : List UInt8) : ∀ u ∈ (rowA l).toList, u.oneCell' = true := by simpa [rowA] using bytes_oneCell l
theorem rowA_at (l : List UInt8) (k : Nat) (h : k < l.length) : (rowA l)[k]? = some (.int .u8 ((l.getD k 0).toNat : Int)) := by
  simp [rowA, List.getD, List.getElem?_eq_getElem h, u8v]
theorem rowA_set (l : List UInt8) (k : Nat) (b : UInt8) : (rowA l).setIfInBounds k (u8v b) = rowA (l.set k b) := by
  simp [rowA, List.map_set]
/-- a part of a row of bytes -/
theorem row_bs {w : World} {g : Nat} {l : List UInt8} {e : TypeId} {fr : Nat × Nat} (h : w.heap[g]? = some (.cells (rowA l) e fr)) (L M c : Nat) (h1 : L ≤ M) (h2 : M ≤ l.length) (h3 : M - L ≤ c) (h4 : c ≤ maxLen) : Bs w (some ⟨g, L, none⟩) (M - L) c ((l.take M).drop L) := by
  refine ⟨by simp; omega, h3, h4, fun j x hj => ⟨_, rfl, ?_⟩, fun h => by cases h⟩
  rw [Addr.add_lit, cell_of_row _ _ _ _ _ _ h]
  rw [List.map_drop, List.map_take, List.getElem?_drop, List.getElem?_take] at hj
  split at hj
  · simpa [rowA] using hj
  · cases hj
/-- the block behind w's last one holds a row of bytes; nothing below has changed -/
structure RowAt (w : World) (e : TypeId) (l : List UInt8) (wr : World) : Prop where
  bel : Below w.heap.size w wr
  row : wr.heap[w.heap.size]? = some (.cells (rowA l) e (0, 0))
theorem RowAt.new (w : World) (e : TypeId) (l : List UInt8) : RowAt w e l (w.alloc (.cells (rowA l) e)) := ⟨(Below.refl _ _).alloc (Nat.le_refl _) _, heap_alloc_new w _⟩
theorem RowAt.set {w wr : World} {e : TypeId} {l : List UInt8} (h : RowAt w e l wr) (k : Nat) (b : UInt8) : RowAt w e (l.set k b) (wr.setCell ⟨w.heap.size, k, none⟩ (.int .u8 (b.toNat : Int))) := by
  refine ⟨h.bel.setCell (by simp) _, ?_⟩
  rw [heap_setCell_same _ _ _ _ _ _ h.row, show (Value.int .u8 (b.toNat : Int)) = u8v b from rfl, rowA_set]
theorem RowAt.cell {w wr : World} {e : TypeId} {l : List UInt8} (h : RowAt w e l wr) (k : Nat) (hk : k < l.length) : wr.cell? ⟨w.heap.size, k, none⟩ = some (.int .u8 ((l.getD k 0).toNat : Int)) := by
  rw [cell_of_row _ _ _ _ _ _ h.row, rowA_at _ _ hk]
theorem RowAt.froz {w wr : World} {e : TypeId} {l : List UInt8} (h : RowAt w e l wr) (k : Nat) : wr.frozen? ⟨w.heap.size, k, none⟩ = false := frozen_of_row _ _ _ _ _ h.row
theorem RowAt.bs {w wr : World} {e : TypeId} {l : List UInt8} (h : RowAt w e l wr) (hm : l.length ≤ maxLen) : Bs wr (some ⟨w.heap.size, 0, none⟩) l.length l.length l := by
  have := row_bs h.row 0 l.length l.length (Nat.zero_le _) (Nat.le_refl _) (by omega) hm
  rwa [List.take_length, List.drop_zero, Nat.sub_zero] at this
theorem madeCells_u8 (n : Nat) : madeCells (Value.int .u8 0).cells (n * 1) = rowA (List.replicate n 0) := by
  rw [Nat.mul_one]
  apply Array.ext
  · simp [madeCells, rowA]
  · intro i h1 h2
    simp [madeCells, rowA, u8v, Value.cells, Nat.mod_one]
section
variable {P : Program} {ops : Array Oper} {rest : List Oper} {o : Oper} {a : Act} {w : World} {Q : Exit → Act → World → Prop}
/-- x[lo:hi] of an array of bytes in memory; lo lies below its length -/
theorem wpList_slice_row (hgd : o.guard = none) (t : TypeId) (x : Operand) (lo hi : Option Operand) (ho : o.op = .slice t x lo hi none) {e : TypeId} {n : Nat} (ht : P.underlying t = some (.array n e)) (hsz : (P.info? e).map (·.size) = some 1)
    (g : Nat) (hx : a.eval x = .pointer (some ⟨g, 0, none⟩)) (L M : Nat) (k1 k2 : IntKind)
    (hL : match lo with | some p => a.eval p = .int k1 (L : Int) | none => L = 0) (hM : match hi with | some p => a.eval p = .int k2 (M : Int) | none => M = n) (h1 : L ≤ M) (h2 : M ≤ n) (h3 : L < n)
    (h : wpList P ops Q rest (a.put o.dst (.slice (some ⟨g, L, none⟩) (M - L) (n - L))) w) : wpList P ops Q (o :: rest) a w := by
  refine wpList_value hgd _ _ ?_ h
  obtain ⟨i, hi', hs'⟩ := Option.map_eq_some_iff.1 hsz
  have hne : ¬ n = L := by omega
  have e1 : (L : Int) ≤ M := by omega
  have e2 : (M : Int) ≤ n := by omega
  have e3 : (L : Int) ≤ n := by omega
  have f3 : L ≤ n := by omega
  have ha : (Addr.add ⟨g, 0, none⟩ L) = (⟨g, L, none⟩ : Addr) := by rw [Addr.add_lit, Nat.zero_add]
  cases lo <;> cases hi <;> simp only at hL hM
  all_goals first | subst hL | skip
  all_goals first | subst hM | skip
  all_goals simp [execOp, ho, hx, Instr.sliceAt, Instr.sureAddr, Instr.sliceBounds, Instr.sliceBound, run_underlying ht, sizeOf, typeInfo, hi', hs', asIntOf, hne, Result.andThen, *]
/-- make([]byte, n) -/
theorem wpList_make_bytes (hgd : o.guard = none) (t : TypeId) (x y : Operand) (ho : o.op = .makeSlice t x y) {e : TypeId} (ht : P.underlying t = some (.slice e)) (hi : (P.info? e).map (fun i => (i.zero, i.size, i.bytes)) = some (some (.int .u8 0), 1, 1))
    (n : Nat) {k1 k2 : IntKind} (hx : a.eval x = .int k1 (n : Int)) (hy : a.eval y = .int k2 (n : Int)) (hn : n ≤ 16777216)
    (h : wpList P ops Q rest (a.put o.dst (.slice (some ⟨w.heap.size, 0, none⟩) n n)) (w.alloc (.cells (rowA (List.replicate n 0)) e))) : wpList P ops Q (o :: rest) a w := by
  obtain ⟨i, hi, hz0, hz1, hz2⟩ := info_parts hi
  have hr := run_makeSlice (P := P) (w := w) t e i (.int .u8 0) ht hi hz0 k1 k2 (n : Int) (n : Int) (by omega) (by omega) (by rw [hz1]; omega) (by rw [hz2]; omega) (by omega)
  rw [hz1, Int.toNat_natCast, madeCells_u8] at hr
  refine wpList_value hgd _ _ ?_ h
  simp [execOp, ho, hx, hy, hr, Result.andThen]
end
end Go.Proofs.Ytbioidbbijmnjaa
