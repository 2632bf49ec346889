/-
  OctLaw: what a field of octal digits says, in plain Lean. No program is needed here.
-/
import Derived.Test.YtjchaogfmnabfaaDoorOct
namespace Go.Proofs.YtjchaogfmnabfaaDoor
open Go.ChangeShapes Go.WideShapes Go.ChangeAt Go.RowKit
/-- a blank or a byte 0 -/
def isGap (b : UInt8) : Bool := b == 32 || b == 0
/-- l without the blanks and the bytes 0 at its end -/
def trimR (l : List UInt8) : List UInt8 := (l.reverse.dropWhile isGap).reverse
theorem trimR_nil : trimR [] = [] := rfl
theorem trimR_gap (t : List UInt8) (c : UInt8) (h : isGap c = true) : trimR (t ++ [c]) = trimR t := by
  unfold trimR
  rw [List.reverse_append, List.reverse_singleton, List.singleton_append, List.dropWhile_cons_of_pos h]
theorem trimR_end (t : List UInt8) (c : UInt8) (h : isGap c = false) : trimR (t ++ [c]) = t ++ [c] := by
  unfold trimR
  rw [List.reverse_append, List.reverse_singleton, List.singleton_append, List.dropWhile_cons_of_neg (by rw [h]; exact Bool.false_ne_true)]
  simp
theorem dropWhile_all {p : UInt8 → Bool} : ∀ (l : List UInt8), l.all p = true → l.dropWhile p = []
  | [], _ => rfl
  | c :: l, h => by
    rw [List.all_cons, Bool.and_eq_true] at h
    rw [List.dropWhile_cons_of_pos h.1, dropWhile_all l h.2]
theorem dropWhile_ne {p : UInt8 → Bool} : ∀ (l : List UInt8), l.all p = false → l.dropWhile p ≠ []
  | [], h => by simp at h
  | c :: l, h => by
    by_cases hc : p c = true
    · rw [List.dropWhile_cons_of_pos hc]
      rw [List.all_cons, hc, Bool.true_and] at h
      exact dropWhile_ne l h
    · rw [List.dropWhile_cons_of_neg hc]
      simp
theorem dropWhile_join {p : UInt8 → Bool} : ∀ (x y : List UInt8), x.all p = false → (x ++ y).dropWhile p = x.dropWhile p ++ y
  | [], _, h => by simp at h
  | c :: x, y, h => by
    by_cases hc : p c = true
    · rw [List.cons_append, List.dropWhile_cons_of_pos hc, List.dropWhile_cons_of_pos hc]
      rw [List.all_cons, hc, Bool.true_and] at h
      exact dropWhile_join x y h
    · rw [List.cons_append, List.dropWhile_cons_of_neg hc, List.dropWhile_cons_of_neg hc, List.cons_append]
theorem dropWhile_pass {p : UInt8 → Bool} : ∀ (x y : List UInt8), x.all p = true → (x ++ y).dropWhile p = y.dropWhile p
  | [], _, _ => rfl
  | c :: x, y, h => by
    rw [List.all_cons, Bool.and_eq_true] at h
    rw [List.cons_append, List.dropWhile_cons_of_pos h.1, dropWhile_pass x y h.2]
theorem trimR_pass (x y : List UInt8) (h : y.all isGap = true) : trimR (x ++ y) = trimR x := by
  unfold trimR
  rw [List.reverse_append, dropWhile_pass _ _ (by rw [List.all_reverse]; exact h)]
theorem trimR_join (x y : List UInt8) (h : y.all isGap = false) : trimR (x ++ y) = x ++ trimR y := by
  unfold trimR
  rw [List.reverse_append, dropWhile_join _ _ (by rw [List.all_reverse]; exact h), List.reverse_append, List.reverse_reverse]
theorem oct_no_gap (c : UInt8) (h : isOct c = true) : isGap c = false := by
  rw [isOct_iff] at h
  simp only [isGap, Bool.or_eq_false_iff, beq_eq_false_iff_ne, ne_eq]
  refine ⟨fun e => ?_, fun e => ?_⟩ <;> subst e <;> simp at h
theorem trimR_oct (D : List UInt8) (h : D.all isOct = true) : trimR D = D := by
  by_cases h0 : D = []
  · subst h0; rfl
  · obtain ⟨t, c, rfl⟩ : ∃ t c, D = t ++ [c] := ⟨D.dropLast, D.getLast h0, (List.dropLast_concat_getLast h0).symm⟩
    have hc : isOct c = true := by
      rw [List.all_append, Bool.and_eq_true] at h
      simpa using h.2
    exact trimR_end t c (oct_no_gap c hc)
/-- the digits ahead; what lies behind them -/
def octHead (m : List UInt8) : List UInt8 := m.takeWhile isOct
def octTail (m : List UInt8) : List UInt8 := m.dropWhile isOct
theorem octHead_all (m : List UInt8) : (octHead m).all isOct = true := by
  unfold octHead
  induction m with
  | nil => rfl
  | cons c m ih =>
    by_cases h : isOct c = true
    · rw [List.takeWhile_cons_of_pos h, List.all_cons, h, ih]; rfl
    · rw [List.takeWhile_cons_of_neg h]; rfl
theorem oct_split (m : List UInt8) : octHead m ++ octTail m = m := List.takeWhile_append_dropWhile
theorem octTail_head (m : List UInt8) : ∀ c r, octTail m = c :: r → isOct c = false := by
  unfold octTail
  induction m with
  | nil => intro c r h; cases h
  | cons d m ih =>
    intro c r h
    by_cases hd : isOct d = true
    · rw [List.dropWhile_cons_of_pos hd] at h; exact ih c r h
    · rw [List.dropWhile_cons_of_neg hd] at h
      cases h
      simpa using hd
/-- the document's answer -/
def Plain.octal (l : List UInt8) : Int × Int :=
  let m := l.dropWhile (· == 32)
  if (octTail m).all isGap then
    (if octAcc 0 (octHead m) ≤ 9223372036854775807 then (((octAcc 0 (octHead m) : Nat) : Int), 0) else (0, 11))
  else (0, 10)
/-- what the program looks at: the text between the blanks -/
theorem trim_good (m : List UInt8) (h : (octTail m).all isGap = true) : trimR m = octHead m := by
  have e := trimR_pass (octHead m) (octTail m) h
  rw [oct_split] at e
  rw [e, trimR_oct _ (octHead_all m)]
theorem trim_bad (m : List UInt8) (h : (octTail m).all isGap = false) : (trimR m).all isOct = false := by
  have e := trimR_join (octHead m) (octTail m) h
  rw [oct_split] at e
  rw [e, List.all_append]
  have hne : trimR (octTail m) ≠ [] := by
    unfold trimR
    intro h0
    have h1 : (octTail m).reverse.dropWhile isGap = [] := by simpa using h0
    exact dropWhile_ne _ (by rw [List.all_reverse]; exact h) h1
  cases ht : octTail m with
  | nil => rw [ht] at hne; exact absurd trimR_nil hne
  | cons c r =>
    have hc := octTail_head m c r ht
    have hpre : ∃ s, trimR (octTail m) = c :: s := by
      have hsub : trimR (octTail m) <+: octTail m := by
        unfold trimR
        have := List.dropWhile_suffix (l := (octTail m).reverse) isGap
        have h2 := List.reverse_prefix.2 this
        rwa [List.reverse_reverse] at h2
      rw [ht] at hsub hne ⊢
      cases hq : trimR (c :: r) with
      | nil => exact absurd hq hne
      | cons x s =>
        rw [hq] at hsub
        obtain ⟨z, hz⟩ := hsub
        rw [List.cons_append] at hz
        injection hz with h1 _
        exact ⟨s, by rw [h1]⟩
    obtain ⟨s, hs⟩ := hpre
    rw [ht] at hs
    rw [hs, List.all_cons, hc]
    simp
end Go.Proofs.YtjchaogfmnabfaaDoor
