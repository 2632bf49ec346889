/-
  ArgsUpto: what the second form's bound says of an argument of bytes.
-/
import Derived.Test.YtpdkdhcbibcifaaArgs
import Derived.Test.YtpdkdhcbibcifaaRows
namespace Go.Proofs.Ytpdkdhcbibcifaa
set_option linter.unusedVariables false
set_option linter.unusedSimpArgs false
open Go.ChangeShapes Go.WideShapes Go.ChangeAt Go.RowKit
section
variable {H : Type} {enc : TypeId × Value → H} {P : Program} {w : World} {base : Nat}
theorem bulk_one (d : DataW H) : 1 ≤ Rows.uptoBulk d := by
  cases d with
  | lit l => cases l <;> simp [Rows.uptoBulk]
  | nil => simp [Rows.uptoBulk]
  | ptr d => simp [Rows.uptoBulk]
  | slice elems spare => simp [Rows.uptoBulk]
  | agg parts => simp [Rows.uptoBulk]
  | iface t d => simp [Rows.uptoBulk]
  | map entries => simp [Rows.uptoBulk]
  | held h => simp [Rows.uptoBulk]
theorem bulk_len : ∀ (l : List (DataW H)), l.length ≤ Rows.uptoBulkAll l
  | [] => by simp [Rows.uptoBulkAll]
  | x :: r => by
    have h1 := bulk_one x
    have h2 := bulk_len r
    simp only [Rows.uptoBulkAll, List.length_cons]; omega
theorem small_of {l : List (DataW H)} (h : Rows.uptoSmall H l = true) : Rows.uptoBulkAll l ≤ 1048576 := by simpa [Rows.uptoSmall] using h
theorem small_0 {d : DataW H} {r : List (DataW H)} (h : Rows.uptoSmall H (d :: r) = true) : Rows.uptoBulk d ≤ 1048576 := by
  have := small_of h
  simp only [Rows.uptoBulkAll] at this; omega
theorem small_1 {d d' : DataW H} {r : List (DataW H)} (h : Rows.uptoSmall H (d' :: d :: r) = true) : Rows.uptoBulk d ≤ 1048576 := by
  have := small_of h
  simp only [Rows.uptoBulkAll] at this; omega
theorem small_mem {l : List (DataW H)} (h : Rows.uptoSmall H l = true) {d : DataW H} (hd : d ∈ l) : Rows.uptoBulk d ≤ 1048576 := by
  have h0 := small_of h
  have hx : ∀ (l : List (DataW H)), d ∈ l → Rows.uptoBulk d ≤ Rows.uptoBulkAll l := by
    intro l
    induction l with
    | nil => intro h; cases h
    | cons x r ih =>
      intro h
      simp only [Rows.uptoBulkAll]
      rcases List.mem_cons.1 h with rfl | h
      · omega
      · have := ih h; omega
  have := hx l hd; omega
/-- an argument of bytes of the second form -/
theorem open_bytes_upto {t e : TypeId} {v : Value} {d : DataW H} {p : List MemPlace} {r : Reach} {b0 : Nat} (ht : P.underlying t = some (.slice e)) (he : P.underlying e = some (.int .u8)) (hc : P.cellsOf e = 1)
    (hv : Value.okWide P w r b0 t v) (h : DataW.Trod enc P w 0 (fun _ => true) true t v d p) (hs : Rows.uptoBulk d ≤ 1048576) :
    ∃ a n c l, v = .slice a n c ∧ Bs w a n c l ∧ c ≤ 1048576 := by
  obtain ⟨a, n, c, rfl⟩ := okWide_slice ht hv
  obtain ⟨fuel, hf⟩ := h
  rcases open_ints ht he hc hf with ⟨hcs, _⟩ | ⟨x, l, c', zs, hcs, _, hl, hm, hz, hx, hcell, hwz⟩
  · simp [Value.cells] at hcs
    obtain ⟨rfl, rfl, rfl⟩ := hcs
    exact ⟨none, 0, 0, [], rfl, ⟨rfl, Nat.le_refl _, by decide, fun j v hj => by simp at hj, fun _ => ⟨rfl, rfl⟩⟩, by omega⟩
  · simp [Value.cells] at hcs
    obtain ⟨rfl, rfl, rfl⟩ := hcs
    simp only [if_true] at hz
    simp only [Prod.mk.injEq] at hx
    obtain ⟨rfl, rfl⟩ := hx
    have hreach : c ≤ 1048576 := by
      simp only [Rows.uptoBulk] at hs
      have h1 := bulk_len (lits (H := H) IntKind.u8 (zs.take n))
      have h2 := bulk_len (lits (H := H) IntKind.u8 (zs.drop n))
      simp only [lits, List.length_map, List.length_take, List.length_drop] at h1 h2
      simp only [lits] at hs
      omega
    refine ⟨some x, n, c, (zs.take n).map toU8, rfl, ⟨by simp; omega, hl, hm, fun j v hj => ⟨x, rfl, ?_⟩, fun h => by cases h⟩, hreach⟩
    simp only [List.map_map, List.getElem?_map, Option.map_eq_some_iff, List.getElem?_take] at hj
    obtain ⟨z, hzj, rfl⟩ := hj
    split at hzj
    · have hjl : j < zs.length := (List.getElem?_eq_some_iff.1 hzj).1
      have hmem : z ∈ zs := List.mem_of_getElem? hzj
      obtain ⟨w0, w1⟩ := wf_u8 (hwz z hmem)
      have := hcell j hjl
      simp only [List.getD, hzj, Option.getD_some] at this
      simp only [Function.comp, u8v_toU8 w0 w1]
      exact this
    · cases hzj
end
end Go.Proofs.Ytpdkdhcbibcifaa
