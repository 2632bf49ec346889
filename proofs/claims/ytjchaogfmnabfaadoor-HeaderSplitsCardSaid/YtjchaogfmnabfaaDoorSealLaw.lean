/-
  SealLaw: sealed blocks, in plain Lean. No program is needed here.
-/
import Derived.Test.YtjchaogfmnabfaaDoorPutLaw
import Derived.Test.YtjchaogfmnabfaaDoorSumLaw
namespace Go.Proofs.YtjchaogfmnabfaaDoor
open Go.ChangeShapes Go.WideShapes Go.ChangeAt Go.RowKit
/-- the checksum's field -/
def sumField (l : List UInt8) : List UInt8 := (l.take 156).drop 148
def Plain.sealed (l : List UInt8) : Bool := decide ((Plain.number (sumField l)).2 = 0 ∧ ((Plain.number (sumField l)).1 = Plain.sum uby l ∨ (Plain.number (sumField l)).1 = Plain.sum sby l))
/-- the block with its checksum -/
def Plain.seal (l : List UInt8) : List UInt8 := l.take 148 ++ (octRow (Plain.sum uby l).toNat 6 ++ [0, 32]) ++ l.drop 156
theorem sealRow_len (n : Nat) : (octRow n 6 ++ [0, 32]).length = 8 := by rw [List.length_append]; unfold octRow; rw [placeRow_len]; rfl
theorem seal_len (l : List UInt8) (h : l.length = 512) : (Plain.seal l).length = 512 := by
  unfold Plain.seal; rw [List.length_append, List.length_append, sealRow_len, List.length_take, List.length_drop]; omega
theorem seal_take (l : List UInt8) (h : l.length = 512) : (Plain.seal l).take 148 = l.take 148 := by
  unfold Plain.seal
  have : (l.take 148).length = 148 := by rw [List.length_take]; omega
  rw [List.append_assoc, List.take_append_of_le_length (by omega), List.take_of_length_le (by omega)]
theorem seal_drop (l : List UInt8) (h : l.length = 512) : (Plain.seal l).drop 156 = l.drop 156 := by
  unfold Plain.seal
  have h1 : (l.take 148 ++ (octRow (Plain.sum uby l).toNat 6 ++ [0, 32])).length = 156 := by rw [List.length_append, sealRow_len, List.length_take]; omega
  have := List.drop_left (l₁ := l.take 148 ++ (octRow (Plain.sum uby l).toNat 6 ++ [0, 32])) (l₂ := l.drop 156)
  rwa [h1] at this
theorem seal_field (l : List UInt8) (h : l.length = 512) : sumField (Plain.seal l) = octRow (Plain.sum uby l).toNat 6 ++ [0, 32] := by
  unfold sumField Plain.seal
  have h0 : (l.take 148).length = 148 := by rw [List.length_take]; omega
  have h1 : (l.take 148 ++ (octRow (Plain.sum uby l).toNat 6 ++ [0, 32])).length = 156 := by rw [List.length_append, sealRow_len, List.length_take]; omega
  have e1 := List.take_left (l₁ := l.take 148 ++ (octRow (Plain.sum uby l).toNat 6 ++ [0, 32])) (l₂ := l.drop 156)
  rw [h1] at e1
  have e2 := List.drop_left (l₁ := l.take 148) (l₂ := octRow (Plain.sum uby l).toNat 6 ++ [0, 32])
  rw [h0] at e2
  rw [e1, e2]
theorem seal_sum (f : UInt8 → Int) (l : List UInt8) (h : l.length = 512) : Plain.sum f (Plain.seal l) = Plain.sum f l := by
  unfold Plain.sum; rw [seal_take l h, seal_drop l h]
theorem number_row (v : Nat) (hv : v < 8 ^ 6) : Plain.number (octRow v 6 ++ [0, 32]) = ((v : Int), 0) := by
  have hg : (octRow v 6 ++ [0, 32]).getD 0 0 = octDig v 5 := by
    unfold octRow; rw [placeRow_succ]; rfl
  have hod := (isOct_iff _).1 (octDig_oct v 5)
  have h8 : (8 : Nat) ^ 6 = 262144 := rfl
  unfold Plain.number
  rw [if_neg (by rw [hg]; omega)]
  exact octal_row v 6 (by omega) hv (by omega) [0, 32] (by decide)
theorem seal_number (l : List UInt8) (h : l.length = 512) : Plain.number (sumField (Plain.seal l)) = (Plain.sum uby l, 0) := by
  have hb := sum_uby_bd l h
  have h8 : (8 : Nat) ^ 6 = 262144 := rfl
  rw [seal_field l h, number_row _ (by omega), Int.toNat_of_nonneg (by omega)]
/-- what is sealed is sealed -/
theorem seal_sealed (l : List UInt8) (h : l.length = 512) : Plain.sealed (Plain.seal l) = true := by
  unfold Plain.sealed
  rw [seal_number l h, decide_eq_true_eq]
  exact ⟨rfl, .inl (seal_sum uby l h).symm⟩
/-- the two sums are one: no byte bears a sign -/
theorem sums_meet (l : List UInt8) (h : sumB uby l = sumB sby l) : ∀ b ∈ l, b.toNat < 128 := by
  have key : ∀ m : List UInt8, sumB sby m ≤ sumB uby m ∧ (sumB sby m = sumB uby m → ∀ b ∈ m, b.toNat < 128) := by
    intro m
    induction m with
    | nil => exact ⟨by rw [sumB_nil, sumB_nil]; omega, fun _ b hb => by cases hb⟩
    | cons c m ih =>
      rw [sumB_cons, sumB_cons]
      have hc := u8_lt c
      have hs : sby c = uby c ∧ c.toNat < 128 ∨ sby c < uby c := by
        unfold sby uby
        by_cases h1 : c.toNat < 128
        · rw [if_pos h1]; exact .inl ⟨rfl, h1⟩
        · rw [if_neg h1]; exact .inr (by omega)
      refine ⟨by rcases hs with hs | hs <;> omega, fun he b hb => ?_⟩
      rcases hs with ⟨e1, e2⟩ | hs
      · rcases List.mem_cons.1 hb with h1 | h1
        · rw [h1]; exact e2
        · exact ih.2 (by omega) b h1
      · omega
  exact (key l).2 h.symm
theorem sums_low (l : List UInt8) (h : Plain.sum uby l = Plain.sum sby l) (p : Nat) (hp : p < l.length) (hf : p < 148 ∨ 156 ≤ p) : (l.getD p 0).toNat < 128 := by
  have hm : sumB uby (l.take 148 ++ l.drop 156) = sumB sby (l.take 148 ++ l.drop 156) := by
    unfold Plain.sum at h
    have e1 : uby 32 = 32 := rfl
    have e2 : sby 32 = 32 := rfl
    rw [e1, e2] at h
    rw [sumB_app, sumB_app]; omega
  have hg : l.getD p 0 = l[p] := by simp [List.getD, List.getElem?_eq_getElem hp]
  rw [hg]
  refine sums_meet _ hm _ ?_
  rw [List.mem_append]
  rcases hf with hf | hf
  · left
    rw [List.mem_take_iff_getElem]
    exact ⟨p, by omega, rfl⟩
  · right
    rw [List.mem_drop_iff_getElem]
    exact ⟨p - 156, by omega, by simp only [show 156 + (p - 156) = p by omega]⟩
theorem sumB_set (f : UInt8 → Int) (l : List UInt8) (p : Nat) (c : UInt8) (hp : p < l.length) : sumB f (l.set p c) = sumB f l - f (l.getD p 0) + f c := by
  have hg : l.getD p 0 = l[p] := by simp [List.getD, List.getElem?_eq_getElem hp]
  have e : l = l.take p ++ l[p] :: l.drop (p + 1) := by rw [← List.drop_eq_getElem_cons hp, List.take_append_drop]
  have e2 : l.set p c = l.take p ++ c :: l.drop (p + 1) := by rw [List.set_eq_take_append_cons_drop, if_pos hp]
  have h1 : sumB f l = sumB f (l.take p) + (f l[p] + sumB f (l.drop (p + 1))) := by
    have := congrArg (sumB f) e
    rw [sumB_app, sumB_cons] at this
    exact this
  rw [e2, sumB_app, sumB_cons, hg, h1]; omega
theorem sum_set (f : UInt8 → Int) (l : List UInt8) (p : Nat) (c : UInt8) (h : l.length = 512) (hp : p < 512) (hf : p < 148 ∨ 156 ≤ p) : Plain.sum f (l.set p c) = Plain.sum f l - f (l.getD p 0) + f c := by
  unfold Plain.sum
  rcases hf with hf | hf
  · rw [List.take_set, List.drop_set_of_lt (by omega), sumB_set f _ p c (by rw [List.length_take]; omega)]
    have : (l.take 148).getD p 0 = l.getD p 0 := by simp [List.getD, List.getElem?_take, hf]
    rw [this]; omega
  · rw [List.drop_set, if_neg (by omega), List.take_set, List.set_eq_of_length_le (by rw [List.length_take]; omega), sumB_set f _ (p - 156) c (by rw [List.length_drop]; omega)]
    have : (l.drop 156).getD (p - 156) 0 = l.getD p 0 := by simp [List.getD, show 156 + (p - 156) = p by omega]
    rw [this]; omega
theorem field_set (l : List UInt8) (p : Nat) (c : UInt8) (hf : p < 148 ∨ 156 ≤ p) : sumField (l.set p c) = sumField l := by
  unfold sumField
  rw [List.take_set]
  rcases hf with hf | hf
  · rw [List.drop_set_of_lt hf]
  · rw [List.set_eq_of_length_le (by rw [List.length_take]; omega)]
/-- one byte turned breaks the seal -/
theorem seal_turned (l : List UInt8) (h : l.length = 512) (hs : Plain.sum uby l = Plain.sum sby l) (p by' : Nat) (hp : p < 512) (hf : p < 148 ∨ 156 ≤ p) (h0 : 0 < by') (hb : by' < 128) (c : UInt8) (hc : c.toNat = ((Plain.seal l).getD p 0).toNat + by') (hc1 : c.toNat < 128) :
    Plain.sealed ((Plain.seal l).set p c) = false := by
  have hl := seal_len l h
  unfold Plain.sealed
  rw [field_set _ _ _ hf, seal_number l h, sum_set uby _ p c hl hp hf, sum_set sby _ p c hl hp hf, seal_sum uby l h, seal_sum sby l h, decide_eq_false_iff_not]
  rintro ⟨_, h1⟩
  generalize (Plain.seal l).getD p 0 = x at *
  have e1 : uby c = uby x + by' := by unfold uby; omega
  have e2 : sby c = sby x + by' := by unfold sby; rw [if_pos hc1, if_pos (by omega)]; omega
  rcases h1 with h1 | h1
  · simp only at h1; omega
  · simp only at h1; omega
end Go.Proofs.YtjchaogfmnabfaaDoor
