/-
  Rowm: a literal slice of one aggregate; an aggregate loaded cell by cell; a slice of an array. No program is needed here.
-/
import Derived.Test.YtbioidbbijmnjaaRowl
namespace Go.Proofs.Ytbioidbbijmnjaa
open Go.ChangeShapes Go.WideShapes Go.ChangeAt Go.RowKit
section
variable {P : Program} {ops : Array Oper} {rest : List Oper} {o : Oper} {a : Act} {w : World} {Q : Exit → Act → World → Prop} {K : Act → World → Prop}
theorem foldl_set (k : Nat) : ∀ (l : List Value) (i : Nat) (z : Array Value), k + i + l.length ≤ z.size →
    (l.zipIdx i).foldl (fun (cs : Array Value) (p : Value × Nat) => cs.setIfInBounds (k + p.2) p.1) z = (z.toList.take (k + i) ++ l ++ z.toList.drop (k + i + l.length)).toArray
  | [], i, z, _ => by simp
  | v :: l, i, z, h => by
    have hi : k + i < z.toList.length := by simp at h ⊢; omega
    rw [List.zipIdx_cons, List.foldl_cons, foldl_set k l (i + 1) _ (by simp at h ⊢; omega)]
    congr 1
    have e := list_seg_step z.toList (k + i) v l (by simp at h ⊢; omega)
    simpa [Array.toList_setIfInBounds, Nat.add_assoc] using e
theorem fill_whole (z cs : Array Value) (sz : Nat) (hz : z.size = sz) (hc : cs.size = sz) : Instr.fill (fun i => some (i * sz, sz)) z [(0, .agg cs)] = some cs := by
  have h := foldl_set 0 cs.toList 0 z (by simp; omega)
  have e : (z.toList.take (0 + 0) ++ cs.toList ++ z.toList.drop (0 + 0 + cs.toList.length)).toArray = cs := by
    rw [List.drop_of_length_le (by simp; omega)]; simp
  rw [e] at h
  simp only [Instr.fill, Value.cells, Nat.zero_mul, hc]
  rw [if_neg (by simp [hz])]
  congr 1
  rw [← Array.foldl_toList]
  simpa using h
/-- a literal slice of one aggregate -/
theorem wpList_slice_one (hgd : o.guard = none) (t : TypeId) (x : Operand) (ho : o.op = .buildSlice t 1 #[(0, x)]) {e : TypeId} {z : Array Value} (ht : P.underlying t = some (.slice e)) (cs : Array Value) (hi : (P.info? e).map (fun i => (i.zero, i.size)) = some (some (.agg z), cs.size))
    (hzs : z.size = cs.size) (hpos : 0 < cs.size) (hlim : cs.size ≤ 16777216) (hx : a.eval x = .agg cs)
    (h : wpList P ops Q rest (a.put o.dst (.slice (some ⟨w.heap.size, 0, none⟩) 1 1)) (w.alloc (.cells cs e))) : wpList P ops Q (o :: rest) a w := by
  refine wpList_value hgd _ _ ?_ h
  obtain ⟨i, hi', hh⟩ := Option.map_eq_some_iff.1 hi
  simp only [Prod.mk.injEq] at hh
  obtain ⟨h0, h1⟩ := hh
  have hne : ¬ cs.size = 0 := by omega
  have hlim' : ¬ 16777216 < cs.size := by omega
  have hf := fill_whole ((Array.range (1 * cs.size)).map (z[· % z.size]!)) cs cs.size (by simp) rfl
  simp only [Nat.one_mul] at hf
  simp [execOp, ho, hx, Instr.buildSlice, run_underlying ht, sizeOf, zeroValue, typeInfo, hi', h0, h1, hne, hlim', Value.cells, hf, newRow, Result.andThen]
/-- an aggregate loaded out of cells that are known -/
theorem run_load_cells (ty : TypeId) (p : Addr) (cs : List Value) (d : TypeDesc) (hu : P.underlying ty = some d) (hd : (match d with | .struct _ | .array _ _ => true | _ => false) = true) (hi : (P.info? ty).map (·.size) = some cs.length)
    (hc : ∀ j v, cs[j]? = some v → w.cell? (p.add j) = some v) : (loadVar ty p).run P w = .ok (.agg cs.toArray) w := by
  obtain ⟨i, hi', hs⟩ := Option.map_eq_some_iff.1 hi
  have hl := run_loadCells_list (P := P) w p cs hc
  have hagg : (isAgg ty).run P w = .ok true w := by
    unfold isAgg
    rw [Sem.run_bind, run_underlying hu w]
    cases d <;> simp_all
  simp [loadVar, hagg, sizeOf, typeInfo, hi', hs, hl, Result.andThen]
theorem wpList_load_cells (hgd : o.guard = none) (ty : TypeId) (x : Operand) (ho : o.op = .load ty x) (p : Addr) (hx : a.eval x = .pointer (some p)) (cs : List Value) (d : TypeDesc) (hu : P.underlying ty = some d) (hd : (match d with | .struct _ | .array _ _ => true | _ => false) = true)
    (hi : (P.info? ty).map (·.size) = some cs.length) (hc : ∀ j v, cs[j]? = some v → w.cell? (p.add j) = some v) (h : wpList P ops Q rest (a.put o.dst (.agg cs.toArray)) w) : wpList P ops Q (o :: rest) a w := by
  refine wpList_value hgd _ _ ?_ h
  simp [execOp, ho, hx, Instr.loadAt, Instr.sureAddr, run_load_cells ty p cs d hu hd hi hc, Result.andThen]
/-- arr[:m] of an array behind a pointer -/
theorem wpList_slice_arr (hgd : o.guard = none) (t : TypeId) (x : Operand) (hi : Operand) (ho : o.op = .slice t x none (some hi) none) {e : TypeId} {n : Nat} (ht : P.underlying t = some (.array n e)) (hsz : ((P.info? e).map (·.size)).isSome = true) (hn : 0 < n)
    (p : Addr) (hx : a.eval x = .pointer (some p)) (M : Nat) (k : IntKind) (v : Int) (hM : a.eval hi = .int k v) (hv : v = (M : Int)) (h2 : M ≤ n)
    (h : wpList P ops Q rest (a.put o.dst (.slice (some p) M n)) w) : wpList P ops Q (o :: rest) a w := by
  refine wpList_value hgd _ _ ?_ h
  obtain ⟨s, hs⟩ := Option.isSome_iff_exists.1 hsz
  obtain ⟨i, hi', hs'⟩ := Option.map_eq_some_iff.1 hs
  have hne : ¬ n = 0 := by omega
  subst hv
  simp [execOp, ho, hx, hM, Instr.sliceAt, Instr.sureAddr, Instr.sliceBounds, Instr.sliceBound, run_underlying ht, sizeOf, typeInfo, hi', asIntOf, h2, hne, Addr.add, Result.andThen]
end
end Go.Proofs.Ytbioidbbijmnjaa
