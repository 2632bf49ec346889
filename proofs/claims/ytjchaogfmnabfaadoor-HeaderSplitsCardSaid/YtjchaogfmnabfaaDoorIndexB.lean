/-
  IndexB: what the place of the first byte 0 says. No program is needed here.
-/
import Derived.Test.YtjchaogfmnabfaaDoorBase
import Derived.Lib.Bytealg
namespace Go.Proofs.YtjchaogfmnabfaaDoor
namespace Plain
theorem indexByte_none (l : List UInt8) (h : Lib.indexByte l 0 < 0) : ∀ j, j < l.length → l.getD j 0 ≠ 0 := by
  induction l with
  | nil => simp
  | cons b l ih =>
    intro j hj
    unfold Lib.indexByte at h
    split at h
    · omega
    · rename_i hb
      cases j with
      | zero => simpa using hb
      | succ j =>
        have hl : Lib.indexByte l 0 < 0 := by
          split at h
          · rename_i h1; have := eq_of_beq h1; omega
          · omega
        simpa using ih hl j (by simpa using hj)
theorem indexByte_some (l : List UInt8) (h : 0 ≤ Lib.indexByte l 0) : ∃ j, j < l.length ∧ l.getD j 0 = 0 := by
  induction l with
  | nil => simp [Lib.indexByte] at h
  | cons b l ih =>
    unfold Lib.indexByte at h
    split at h
    · rename_i hb; exact ⟨0, by simp, by simpa using hb⟩
    · split at h
      · omega
      · rename_i h1
        have hge : 0 ≤ Lib.indexByte l 0 := by
          have hm : ∀ m : List UInt8, -1 ≤ Lib.indexByte m 0 := by
            intro m
            induction m with
            | nil => simp [Lib.indexByte]
            | cons c m ihm => unfold Lib.indexByte; split; omega; split <;> omega
          have := hm l
          have : Lib.indexByte l 0 ≠ -1 := by simpa using h1
          omega
        obtain ⟨j, hj, hz⟩ := ih hge
        exact ⟨j + 1, by simpa using hj, by simpa using hz⟩
end Plain
end Go.Proofs.YtjchaogfmnabfaaDoor
