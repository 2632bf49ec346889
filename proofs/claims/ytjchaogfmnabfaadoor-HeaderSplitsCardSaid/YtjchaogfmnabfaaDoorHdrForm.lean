/-
  HdrForm: header.form, header.fields; two headers compared.
-/
import Derived.Test.YtjchaogfmnabfaaDoorHdrLaw
import Derived.Test.YtjchaogfmnabfaaDoorRowl
import Derived.Test.YtjchaogfmnabfaaDoorText
import Derived.Outline
import Derived.Deep.DeepCutAuto
import Derived.Deep.CutBlock
namespace Go.Proofs.YtjchaogfmnabfaaDoor
set_option linter.unusedVariables false
set_option linter.unusedSimpArgs false
open Go.ChangeShapes Go.WideShapes Go.ChangeAt Go.RowKit
theorem formOf_eq (l : List UInt8) : formOf l = if (fld l 257 265 == magicU) = true then 2 else if (fld l 257 265 == magicG) = true then 3 else 1 := by
  unfold formOf; simp only [beq_iff_eq]
set_option maxHeartbeats 800000 in
theorem Form_any (g : Nat) (l : List UInt8) (w : World) (hl : l.length = 512) (hg : w.heap[g]? = some (.cells (rowA l) 47 (0, 0))) :
    Calls Tryd.prog 43 #[.pointer (some ⟨g, 0, none⟩)] w fun e w' => e = .returned (.int .i64 (formOf l)) ∧ w = w' := by
  have hb : Bs w (some ⟨g, 257, none⟩) (265 - 257) (512 - 257) (fld l 257 265) := row_bs hg 257 265 (512 - 257) (by decide) (by omega) (by decide) (by unfold maxLen; omega)
  rw [formOf_eq]
  unfold magicU magicG
  generalize fld l 257 265 = f at *
  have HB := Lib.hid hb; clear hb hg hl
  by_cases h1 : (f == [117, 115, 116, 97, 114, 0, 48, 48]) = true
  · rw [if_pos h1]
    go_enter Tryd.func43, Tryd.ntmps43
    go_wp2_with (first
      | (with_reducible refine wpList_slice_row rfl _ _ _ _ rfl Tryd.underlying47 (by kernel_rfl) g rfl 257 265 .i64 .i64 rfl rfl (by decide) (by decide) (by decide) ?_)
      | (with_reducible refine wpList_str_of_bs rfl _ _ _ rfl Tryd.underlying22 Tryd.underlying5 Tryd.underlying9 rfl HB.out ?_))
    go_ret
    exact ⟨rfl, rfl⟩
  · have h1' : (f == [117, 115, 116, 97, 114, 0, 48, 48]) = false := by simpa using h1
    rw [if_neg h1]
    clear h1
    by_cases h2 : (f == [117, 115, 116, 97, 114, 32, 32, 0]) = true
    · rw [if_pos h2]
      go_enter Tryd.func43, Tryd.ntmps43
      go_wp2_with (first
        | (with_reducible refine wpList_slice_row rfl _ _ _ _ rfl Tryd.underlying47 (by kernel_rfl) g rfl 257 265 .i64 .i64 rfl rfl (by decide) (by decide) (by decide) ?_)
        | (with_reducible refine wpList_str_of_bs rfl _ _ _ rfl Tryd.underlying22 Tryd.underlying5 Tryd.underlying9 rfl HB.out ?_))
      go_ret
      exact ⟨rfl, rfl⟩
    · have h2' : (f == [117, 115, 116, 97, 114, 32, 32, 0]) = false := by simpa using h2
      rw [if_neg h2]
      clear h2
      go_enter Tryd.func43, Tryd.ntmps43
      go_wp2_with (first
        | (with_reducible refine wpList_slice_row rfl _ _ _ _ rfl Tryd.underlying47 (by kernel_rfl) g rfl 257 265 .i64 .i64 rfl rfl (by decide) (by decide) (by decide) ?_)
        | (with_reducible refine wpList_str_of_bs rfl _ _ _ rfl Tryd.underlying22 Tryd.underlying5 Tryd.underlying9 rfl HB.out ?_))
      go_ret
      exact ⟨rfl, rfl⟩
/-- where a number stands, and between what it lies -/
def fieldAt : Nat → Nat × Nat × Int × Int
  | 0 => (100, 108, 0, 9223372036854775807)
  | 1 => (108, 116, 0, 2147483647)
  | 2 => (116, 124, 0, 2147483647)
  | 3 => (124, 136, 0, 9223372036854775807)
  | 4 => (136, 148, -1099511627776, 1099511627776)
  | 5 => (329, 337, 0, 9223372036854775807)
  | _ => (337, 345, 0, 9223372036854775807)
def fieldV (k : Nat) : List Value := [.int .i64 (fieldAt k).1, .int .i64 (fieldAt k).2.1, .int .i64 (fieldAt k).2.2.1, .int .i64 (fieldAt k).2.2.2]
def fieldsA : Array Value := (((List.range 7).flatMap fieldV)).toArray
theorem sizeFields : (Tryd.prog.info? 69).map (·.size) = some fieldsA.size := by kernel_rfl
theorem fields_one : ∀ u ∈ fieldsA.toList, u.oneCell' = true := by
  intro u hu
  simp [fieldsA, fieldV, fieldAt, List.range, List.range.loop] at hu
  rcases hu with h | h | h | h | h | h | h | h | h | h | h | h | h | h | h | h | h | h | h | h | h | h | h | h | h | h | h | h <;> subst h <;> rfl
section
variable {P : Program} {ops : Array Oper} {rest : List Oper} {o : Oper} {a : Act} {w : World} {Q : Exit → Act → World → Prop}
theorem wpList_built (hg : o.guard = none) {t : TypeId} {es : Array (Nat × Operand)} (_ho : o.op = .build t es) (v : Value) (h : (execOp a.eval o).run P w = .ok (.value v) w)
    (hk : wpList P ops Q rest (a.put o.dst v) w) : wpList P ops Q (o :: rest) a w := wpList_value hg v w h hk
end
set_option maxRecDepth 100000 in
set_option maxHeartbeats 800000 in
theorem Fields_any (w : World) : Calls Tryd.prog 44 #[] w fun e w' => e = .returned (.agg fieldsA) ∧ Below w.heap.size w w' := by
  obtain ⟨FA, hFA⟩ : ∃ FA, FA = fieldsA := ⟨_, rfl⟩
  have HI : Hid ((Tryd.prog.info? 69).map (·.size) = some FA.size) := by rw [hFA]; exact Lib.hid sizeFields
  have HO : Hid (∀ u ∈ FA.toList, u.oneCell' = true) := by rw [hFA]; exact Lib.hid fields_one
  have HS : Hid (FA.size = 28) := by rw [hFA]; exact Lib.hid rfl
  rw [← hFA]
  have HFA := Lib.hid hFA
  clear hFA
  go_enter Tryd.func44, Tryd.ntmps44
  go_upto_region 1 with fail
  have hh := heap_alloc_new w (.cells #[.int .i64 0, .int .i64 0, .int .i64 0, .int .i64 0, .int .i64 0, .int .i64 0, .int .i64 0, .int .i64 0, .int .i64 0, .int .i64 0, .int .i64 0, .int .i64 0, .int .i64 0, .int .i64 0, .int .i64 0, .int .i64 0, .int .i64 0, .int .i64 0, .int .i64 0, .int .i64 0, .int .i64 0, .int .i64 0, .int .i64 0, .int .i64 0, .int .i64 0, .int .i64 0, .int .i64 0, .int .i64 0] 69)
  have hb := (Below.refl w.heap.size w).alloc (Nat.le_refl _) (.cells #[.int .i64 0, .int .i64 0, .int .i64 0, .int .i64 0, .int .i64 0, .int .i64 0, .int .i64 0, .int .i64 0, .int .i64 0, .int .i64 0, .int .i64 0, .int .i64 0, .int .i64 0, .int .i64 0, .int .i64 0, .int .i64 0, .int .i64 0, .int .i64 0, .int .i64 0, .int .i64 0, .int .i64 0, .int .i64 0, .int .i64 0, .int .i64 0, .int .i64 0, .int .i64 0, .int .i64 0, .int .i64 0] 69)
  have hz : (#[.int .i64 0, .int .i64 0, .int .i64 0, .int .i64 0, .int .i64 0, .int .i64 0, .int .i64 0, .int .i64 0, .int .i64 0, .int .i64 0, .int .i64 0, .int .i64 0, .int .i64 0, .int .i64 0, .int .i64 0, .int .i64 0, .int .i64 0, .int .i64 0, .int .i64 0, .int .i64 0, .int .i64 0, .int .i64 0, .int .i64 0, .int .i64 0, .int .i64 0, .int .i64 0, .int .i64 0, .int .i64 0] : Array Value).size = FA.size := by rw [HS.out]; rfl
  generalize (#[.int .i64 0, .int .i64 0, .int .i64 0, .int .i64 0, .int .i64 0, .int .i64 0, .int .i64 0, .int .i64 0, .int .i64 0, .int .i64 0, .int .i64 0, .int .i64 0, .int .i64 0, .int .i64 0, .int .i64 0, .int .i64 0, .int .i64 0, .int .i64 0, .int .i64 0, .int .i64 0, .int .i64 0, .int .i64 0, .int .i64 0, .int .i64 0, .int .i64 0, .int .i64 0, .int .i64 0, .int .i64 0] : Array Value) = Z at *
  generalize w.alloc (.cells Z 69) = wa at *
  have HH := Lib.hid hh; have HB := Lib.hid hb; have HZ := Lib.hid hz
  clear hh hb hz
  go_wp2_with (first
    | ((with_reducible refine wpList_built (t := 68) (es := #[(0, .const (.int .i64 100)), (1, .const (.int .i64 108)), (2, .const (.int .i64 0)), (3, .const (.int .i64 9223372036854775807))]) rfl rfl (.agg #[.int .i64 100, .int .i64 108, .int .i64 0, .int .i64 9223372036854775807]) (by kernel_rfl) ?_); simp only [Act.put, List.setIfInBounds_toArray, List.set_cons_zero, List.set_cons_succ])
    | ((with_reducible refine wpList_built (t := 68) (es := #[(0, .const (.int .i64 108)), (1, .const (.int .i64 116)), (2, .const (.int .i64 0)), (3, .const (.int .i64 2147483647))]) rfl rfl (.agg #[.int .i64 108, .int .i64 116, .int .i64 0, .int .i64 2147483647]) (by kernel_rfl) ?_); simp only [Act.put, List.setIfInBounds_toArray, List.set_cons_zero, List.set_cons_succ])
    | ((with_reducible refine wpList_built (t := 68) (es := #[(0, .const (.int .i64 116)), (1, .const (.int .i64 124)), (2, .const (.int .i64 0)), (3, .const (.int .i64 2147483647))]) rfl rfl (.agg #[.int .i64 116, .int .i64 124, .int .i64 0, .int .i64 2147483647]) (by kernel_rfl) ?_); simp only [Act.put, List.setIfInBounds_toArray, List.set_cons_zero, List.set_cons_succ])
    | ((with_reducible refine wpList_built (t := 68) (es := #[(0, .const (.int .i64 124)), (1, .const (.int .i64 136)), (2, .const (.int .i64 0)), (3, .const (.int .i64 9223372036854775807))]) rfl rfl (.agg #[.int .i64 124, .int .i64 136, .int .i64 0, .int .i64 9223372036854775807]) (by kernel_rfl) ?_); simp only [Act.put, List.setIfInBounds_toArray, List.set_cons_zero, List.set_cons_succ])
    | ((with_reducible refine wpList_built (t := 68) (es := #[(0, .const (.int .i64 136)), (1, .const (.int .i64 148)), (2, .const (.int .i64 (-1099511627776))), (3, .const (.int .i64 1099511627776))]) rfl rfl (.agg #[.int .i64 136, .int .i64 148, .int .i64 (-1099511627776), .int .i64 1099511627776]) (by kernel_rfl) ?_); simp only [Act.put, List.setIfInBounds_toArray, List.set_cons_zero, List.set_cons_succ])
    | ((with_reducible refine wpList_built (t := 68) (es := #[(0, .const (.int .i64 329)), (1, .const (.int .i64 337)), (2, .const (.int .i64 0)), (3, .const (.int .i64 9223372036854775807))]) rfl rfl (.agg #[.int .i64 329, .int .i64 337, .int .i64 0, .int .i64 9223372036854775807]) (by kernel_rfl) ?_); simp only [Act.put, List.setIfInBounds_toArray, List.set_cons_zero, List.set_cons_succ])
    | ((with_reducible refine wpList_built (t := 68) (es := #[(0, .const (.int .i64 337)), (1, .const (.int .i64 345)), (2, .const (.int .i64 0)), (3, .const (.int .i64 9223372036854775807))]) rfl rfl (.agg #[.int .i64 337, .int .i64 345, .int .i64 0, .int .i64 9223372036854775807]) (by kernel_rfl) ?_); simp only [Act.put, List.setIfInBounds_toArray, List.set_cons_zero, List.set_cons_succ])
    | ((with_reducible refine wpList_built (t := 69) (es := #[(0, .tmp 1), (1, .tmp 2), (2, .tmp 3), (3, .tmp 4), (4, .tmp 5), (5, .tmp 6), (6, .tmp 7)]) rfl rfl (.agg FA) (by rw [HFA.out]; kernel_rfl) ?_); simp only [Act.put, List.setIfInBounds_toArray, List.set_cons_zero, List.set_cons_succ])
    | (with_reducible refine wpList_store_row rfl 69 _ _ rfl w.heap.size rfl FA rfl Z 69 HH.out HZ.out HI.out HO.out ?_))
  refine bodyPost_ret (results_cell_row rfl _ _ w.heap.size 69 FA (0, 0) _ rfl (setRow_heap _ _ _ _ _ _ HH.out) Tryd.underlying69 rfl HI.out) rfl ⟨rfl, Below.setRow HB.out (Nat.le_refl _) _⟩
end Go.Proofs.YtjchaogfmnabfaaDoor
