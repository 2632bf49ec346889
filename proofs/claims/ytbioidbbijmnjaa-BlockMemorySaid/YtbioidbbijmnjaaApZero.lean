/-
  ApZero: append(x, make([]byte, m)...) onto a slice that may be written. No program is needed here.
-/
import Derived.Test.YtbioidbbijmnjaaApMem
namespace Go.Proofs.Ytbioidbbijmnjaa
set_option linter.unusedVariables false
set_option linter.unusedSimpArgs false
open Go.ChangeShapes Go.WideShapes Go.ChangeAt Go.RowKit
section
variable {P : Program}
theorem zeroCells_one (m : Nat) : ∀ v ∈ (Builtin.zeroCells (Value.int .u8 0).cells m).toList, v.oneCell' = true := by
  intro v hv
  simp [Builtin.zeroCells, Value.cells] at hv
  obtain ⟨_, _, rfl⟩ := hv
  simp [Value.oneCell', Nat.mod_one]
theorem zeroCells_len (m : Nat) : (Builtin.zeroCells (Value.int .u8 0).cells m).toList.length = m := by simp [Builtin.zeroCells, Value.cells]
theorem run_zeros_free (w : World) (t tn ty e : TypeId) (kn : IntKind) (ht : P.underlying t = some (.slice e)) (htn : P.underlying tn = some (.int kn)) (hi : (P.info? e).map (fun i => (i.zero, i.size, i.bytes)) = some (some (.int .u8 0), 1, 1))
    (B : Nat) (hB : B ≤ w.heap.size) (a : Option Addr) (n c : Nat) (h : Free w B a n c) (m : Nat) (h0 : 0 < m) (hm : m ≤ 1000000) (hb : n + m ≤ 140737488355328) :
    ∃ a' c' w', (Builtin.append_ #[t, tn] ty #[.slice a n c, .int .i64 (m : Int)]).run P w = .ok (.slice a' (n + m) c') w' ∧ Chg B a n w w' := by
  obtain ⟨i, hi, hz0, hz1, hz2⟩ := info_parts hi
  obtain ⟨hn, hc, hf⟩ := h
  have hw : IntKind.i64.wrap (m : Int) = m := by rw [IntKind.wrap_i64]; omega
  have hneg : ¬ ((m : Int) < 0) := by omega
  have h48i : ¬ (281474976710656 < (m : Int)) := by omega
  have hm0 : ¬ m = 0 := by omega
  have hnw : w.grownBy w.drew none := ⟨rfl, rfl, rfl, Nat.le_refl _, fun _ _ _ => rfl⟩
  have hal : ∀ o : Obj, w.grownBy (w.drew.alloc o) none := fun o => ⟨rfl, rfl, rfl, by simp, fun k hk _ => heap_alloc_old w.drew _ hk⟩
  rcases hf with ⟨rfl, rfl⟩ | ⟨g, rfl, hg1, hg2, hfr⟩
  · obtain rfl : n = 0 := by omega
    have hr := Lib.run_append_nil_zeros (P := P) w t tn ty e i (.int .u8 0) .i64 kn ht htn hi hz0 m h0 (by omega) (by omega) (by rw [hz2]; omega)
    rw [Nat.zero_add]
    exact ⟨_, _, _, hr, chg_grown (hal _) hB⟩
  · by_cases hr : n + m ≤ c
    · have hst := run_storeCells_cells (P := P) g n (Builtin.zeroCells (Value.int .u8 0).cells m).toList 0 w (fun j hj => by rw [zeroCells_len] at hj; exact (hfr _ (by omega)).1) (fun j hj => by rw [zeroCells_len] at hj; exact (hfr _ (by omega)).2) (zeroCells_one m)
      simp only [Nat.add_zero] at hst
      have hrun : (Builtin.append_ #[t, tn] ty #[.slice (some ⟨g, 0, none⟩) n c, .int .i64 (m : Int)]).run P w = .ok (.slice (some ⟨g, 0, none⟩) (n + m) c) (w.setCells g n (Builtin.zeroCells (Value.int .u8 0).cells m).toList) := by
        simp [Builtin.append_, run_underlying ht, run_underlying htn, sizeOf, typeInfo, zeroValue, hi, hz0, hz1, hz2, asInt, asIntOf, hw, hneg, h48i, hm0, hr, Addr.add_lit, hst]
      exact ⟨_, _, _, hrun, chg_place hg1 (zeroCells_len m) (fun j hj => (hfr _ (by omega)).1)⟩
    · have hgt : c < n + m := by omega
      have hfit := growslice_fits (bytes := 1) hgt (by omega)
      rw [Nat.mul_one] at hfit
      have h48' : ¬ (281474976710656 < Builtin.nextslicecap (n + m) c) := by omega
      have h63' : ¬ (9223372036854775807 < ((n : Int) + (m : Int))) := by omega
      have hold : ∀ j u, (((List.range n).map fun j => (w.cell? ⟨g, j, none⟩).getD undef))[j]? = some u → w.drew.cell? ((⟨g, 0, none⟩ : Addr).add j) = some u := by
        intro j u hj
        obtain ⟨hjn, he⟩ := List.getElem?_eq_some_iff.1 hj
        simp only [List.length_map, List.length_range] at hjn
        simp only [List.getElem_map, List.getElem_range] at he
        obtain ⟨v, hv⟩ := Option.isSome_iff_exists.1 (hfr j (by omega)).1
        rw [hv] at he
        simp only [Option.getD_some] at he
        rw [Addr.add_lit, Nat.zero_add]
        show w.cell? _ = _
        rw [hv, he]
      have hfo := run_firstCells_some (P := P) w.drew 1 n ⟨g, 0, none⟩ n c ((List.range n).map fun j => (w.cell? ⟨g, j, none⟩).getD undef) (by simp) hold
      generalize ((List.range n).map fun j => (w.cell? ⟨g, j, none⟩).getD undef) = olds at *
      have hrun : (Builtin.append_ #[t, tn] ty #[.slice (some ⟨g, 0, none⟩) n c, .int .i64 (m : Int)]).run P w =
          .ok (.slice (some ⟨w.heap.size, 0, none⟩) (n + m) (grownCap w (n + m) c e)) (w.drew.alloc (.cells (olds.toArray ++ Builtin.zeroCells (Value.int .u8 0).cells m ++ Builtin.zeroCells (Value.int .u8 0).cells (grownCap w (n + m) c e - (n + m))) e)) := by
        simp [Builtin.append_, run_underlying ht, run_underlying htn, sizeOf, typeInfo, zeroValue, hi, hz0, hz1, hz2, asInt, asIntOf, hw, hneg, h48i, h48', h63', hm0, hr, Question.forced, hfo, newRow, grownCap]
      exact ⟨_, _, _, hrun, chg_grown (hal _) hB⟩
end
end Go.Proofs.Ytbioidbbijmnjaa
