/-
  Decs: the reference's Decimal, and numeral.Decimal.
-/
import Derived.Test.YtamgiffkhnfpmaaDoorDec
import Derived.Test.YtamgiffkhnfpmaaDoorShelf
namespace Go.Proofs.YtamgiffkhnfpmaaDoor
open Go.ChangeShapes Go.WideShapes Go.ChangeAt Go.RowKit
theorem Plain.decimal_bad (l : List UInt8) (h : l = [] ∨ (l.getD 0 0 = 48 ∧ 1 < l.length) ∨ l.all isDig = false) : Plain.decimal l = (0, 10) := if_pos h
theorem Plain.decimal_good (l : List UInt8) (h : ¬ (l = [] ∨ (l.getD 0 0 = 48 ∧ 1 < l.length) ∨ l.all isDig = false)) (h2 : decAcc 0 l ≤ 9223372036854775807) : Plain.decimal l = (((decAcc 0 l : Nat) : Int), 0) := by
  unfold Plain.decimal; rw [if_neg h, if_pos h2]
theorem Plain.decimal_over (l : List UInt8) (h : ¬ (l = [] ∨ (l.getD 0 0 = 48 ∧ 1 < l.length) ∨ l.all isDig = false)) (h2 : ¬ decAcc 0 l ≤ 9223372036854775807) : Plain.decimal l = (0, 11) := by
  unfold Plain.decimal; rw [if_neg h, if_neg h2]
theorem all_dig_step (l : List UInt8) (k : Nat) (h : k < l.length) (ih : (l.take k).all isDig = true) (hd : 48 ≤ (l.getD k 0).toNat ∧ (l.getD k 0).toNat ≤ 57) : (l.take (k + 1)).all isDig = true := by
  have hg : l.getD k 0 = l[k] := by simp [List.getD, List.getElem?_eq_getElem h]
  have h1 : isDig (l.getD k 0) = true := (isDig_iff _).2 hd
  rw [List.take_succ_eq_append_getElem h, List.all_append, ih, ← hg, List.all_cons, h1]; rfl
theorem all_dig_no (l : List UInt8) (k : Nat) (h : k < l.length) (hd : ¬ (48 ≤ (l.getD k 0).toNat ∧ (l.getD k 0).toNat ≤ 57)) : l.all isDig = false := by
  have hg : l.getD k 0 = l[k] := by simp [List.getD, List.getElem?_eq_getElem h]
  cases ha : l.all isDig with
  | false => rfl
  | true =>
    have := (List.all_eq_true.1 ha) l[k] (List.getElem_mem h)
    rw [isDig_iff, ← hg] at this
    exact absurd this hd
theorem decAcc_step (l : List UInt8) (k : Nat) (h : k < l.length) : decAcc 0 (l.take (k + 1)) = decAcc 0 (l.take k) * 10 + ((l.getD k 0).toNat - 48) := by
  have hg : l.getD k 0 = l[k] := by simp [List.getD, List.getElem?_eq_getElem h]
  rw [List.take_succ_eq_append_getElem h, decAcc_one, hg]
theorem decAcc_take_le (l : List UInt8) (k : Nat) : decAcc 0 (l.take k) ≤ decAcc 0 l := by
  have h := decAcc_app 0 (l.take k) (l.drop k)
  rw [List.take_append_drop] at h
  rw [h]
  exact decAcc_le _ _
theorem dig_at (l : List UInt8) (k : Nat) (h : k < l.length) (ha : l.all isDig = true) : 48 ≤ (l.getD k 0).toNat ∧ (l.getD k 0).toNat ≤ 57 := by
  have hg : l.getD k 0 = l[k] := by simp [List.getD, List.getElem?_eq_getElem h]
  rw [hg, ← isDig_iff]
  exact (List.all_eq_true.1 ha) l[k] (List.getElem_mem h)
/-- how a decimal text is tested at its head -/
theorem head_cases (l : List UInt8) (h : ¬ (l.getD 0 0 = 48 ∧ 1 < l.length)) : (((l.getD 0 0).toNat : Int) == 48) = false ∨ (l.getD 0 0 = 48 ∧ ¬ 1 < (l.length : Int)) := by
  by_cases h1 : l.getD 0 0 = 48
  · exact .inr ⟨h1, fun h2 => h ⟨h1, by omega⟩⟩
  · refine .inl ?_
    rw [beq_eq_false_iff_ne]
    intro h2
    exact h1 (UInt8.toNat_inj.1 (by simpa using (by omega : (l.getD 0 0).toNat = 48)))
theorem head_cases2 (l : List UInt8) (h : ¬ (l.getD 0 0 = 48 ∧ 1 < l.length)) : ¬ 1 < (l.length : Int) ∨ (1 < (l.length : Int) ∧ (((l.getD 0 0).toNat : Int) == 48) = false) := by
  rcases head_cases l h with h1 | h1
  · by_cases h2 : 1 < (l.length : Int)
    · exact .inr ⟨h2, h1⟩
    · exact .inl h2
  · exact .inl h1.2
/-- what strconv.ErrRange holds -/
def ErrIs (w : World) (ev : Value) : Prop := w.cell? ⟨3, 0, none⟩ = some ev ∧ ∃ te pe, ev = .iface te pe
theorem ErrIs.below {w w' : World} {ev : Value} (h : ErrIs w ev) (k : Below w.heap.size w w') : ErrIs w' ev := ⟨Below.keeps k _ _ h.1, h.2⟩
end Go.Proofs.YtamgiffkhnfpmaaDoor
