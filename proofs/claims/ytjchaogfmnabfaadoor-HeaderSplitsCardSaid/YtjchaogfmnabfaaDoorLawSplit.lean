/-
  LawSplit: the law HeaderSplitJoins, walked.
-/
import Derived.Test.YtjchaogfmnabfaaDoorSplit
import Derived.Test.YtjchaogfmnabfaaDoorIndexB
namespace Go.Proofs.YtjchaogfmnabfaaDoor
open Go.ChangeShapes Go.WideShapes Go.ChangeAt Go.RowKit
namespace Plain
/-- a name that is split: its parts -/
def Well (l p s : List UInt8) : Prop := 0 < s.length ∧ s.length ≤ 100 ∧ p.length ≤ 155 ∧ ((p = [] ∧ s = l) ∨ (p ≠ [] ∧ p ++ [47] ++ s = l ∧ 100 < l.length))
/-- a name that is refused: why -/
def Ill (l : List UInt8) : Prop := (∃ j, j < l.length ∧ l.getD j 0 = 0) ∨
  ((∀ i, 1 ≤ i → i + 1 < l.length → l.getD i 0 = 47 → i ≤ 155 → l.length - 1 - i ≤ 100 → False) ∧ (l.length = 0 ∨ 100 < l.length))
theorem split_cases (l : List UInt8) : (∃ p s, split l = (p, s, 0) ∧ Well l p s) ∨ (split l = ([], [], 43) ∧ Ill l) := by
  unfold split
  by_cases c1 : l = []
  · rw [if_pos c1]; subst c1
    exact .inr ⟨rfl, .inr ⟨fun i _ h => by simp at h, .inl rfl⟩⟩
  · rw [if_neg c1]
    have hpos : 0 < l.length := List.length_pos_iff.2 c1
    by_cases c2 : 0 ≤ Lib.indexByte l 0
    · rw [if_pos c2]
      exact .inr ⟨rfl, .inl (indexByte_some l c2)⟩
    · rw [if_neg c2]
      by_cases c3 : l.length ≤ 100
      · rw [if_pos c3]
        exact .inl ⟨[], l, rfl, hpos, c3, by simp, .inl ⟨rfl, rfl⟩⟩
      · rw [if_neg c3]
        have hst := stroke_spec l
        by_cases c4 : stroke l < 1
        · rw [if_pos c4]
          refine .inr ⟨rfl, .inr ⟨fun i h1 h2 h3 h4 h5 => ?_, .inr (by omega)⟩⟩
          rcases hst with ⟨_, hn⟩ | ⟨k, hk, hs, _, hn⟩
          · exact hn i (by omega) h3
          · exact hn i (by omega) (by omega) h3
        · rw [if_neg c4]
          by_cases c5 : 100 < (l.length : Int) - stroke l - 1
          · rw [if_pos c5]
            refine .inr ⟨rfl, .inr ⟨fun i h1 h2 h3 h4 h5 => ?_, .inr (by omega)⟩⟩
            rcases hst with ⟨hs, hn⟩ | ⟨k, hk, hs, _, hn⟩
            · omega
            · exact hn i (by omega) (by omega) h3
          · rw [if_neg c5]
            rcases hst with ⟨hs, hn⟩ | ⟨k, hk, hs, h47, hn⟩
            · omega
            · rw [hs] at c4 c5 ⊢
              have hkl : k < l.length := by omega
              simp only [Int.toNat_natCast]
              refine .inl ⟨_, _, rfl, by rw [List.length_drop]; omega, by rw [List.length_drop]; omega, by rw [List.length_take]; omega, .inr ⟨?_, ?_, by omega⟩⟩
              · intro h0; rcases List.take_eq_nil_iff.1 h0 with h | h; omega; subst h; simp at hkl
              · have e : l.getD k 0 = l[k] := by simp [List.getD, List.getElem?_eq_getElem hkl]
                rw [e] at h47
                have := List.take_succ_eq_append_getElem hkl
                rw [← h47, ← this, List.take_append_drop]
end Plain
end Go.Proofs.YtjchaogfmnabfaaDoor
