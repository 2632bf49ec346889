/-
  SumLaw: the two sums of a block, in plain Lean. No program is needed here.
-/
import Derived.Test.YtjchaogfmnabfaaDoorPlace
namespace Go.Proofs.YtjchaogfmnabfaaDoor
open Go.ChangeShapes Go.WideShapes Go.ChangeAt Go.RowKit
/-- a byte with a sign -/
def sby (b : UInt8) : Int := if b.toNat < 128 then (b.toNat : Int) else (b.toNat : Int) - 256
theorem sby_bd (b : UInt8) : -128 ≤ sby b ∧ sby b ≤ 127 := by unfold sby; have := u8_lt b; split <;> omega
/-- the sum of f over the bytes -/
def sumB (f : UInt8 → Int) (l : List UInt8) : Int := l.foldl (fun s b => s + f b) 0
theorem foldl_sumB (f : UInt8 → Int) : ∀ (l : List UInt8) (s : Int), l.foldl (fun s b => s + f b) s = s + sumB f l
  | [], s => by simp [sumB]
  | b :: l, s => by
    have e : sumB f (b :: l) = f b + sumB f l := by
      show (b :: l).foldl (fun s b => s + f b) 0 = _
      rw [List.foldl_cons, foldl_sumB f l (0 + f b)]; omega
    rw [List.foldl_cons, foldl_sumB f l (s + f b), e]
    omega
theorem sumB_nil (f : UInt8 → Int) : sumB f [] = 0 := rfl
theorem sumB_app (f : UInt8 → Int) (a b : List UInt8) : sumB f (a ++ b) = sumB f a + sumB f b := by
  show (a ++ b).foldl (fun s b => s + f b) 0 = _
  rw [List.foldl_append, foldl_sumB]; rfl
theorem sumB_cons (f : UInt8 → Int) (c : UInt8) (l : List UInt8) : sumB f (c :: l) = f c + sumB f l := by
  show (c :: l).foldl (fun s b => s + f b) 0 = _
  rw [List.foldl_cons, foldl_sumB]; omega
theorem sumB_step (f : UInt8 → Int) (l : List UInt8) (k : Nat) (h : k < l.length) : sumB f (l.take (k + 1)) = sumB f (l.take k) + f (l.getD k 0) := by
  have hg : l.getD k 0 = l[k] := by simp [List.getD, List.getElem?_eq_getElem h]
  rw [List.take_succ_eq_append_getElem h, sumB_app, sumB_cons, sumB_nil, hg]; omega
theorem sumB_bd (f : UInt8 → Int) (h : ∀ b, -256 ≤ f b ∧ f b ≤ 255) : ∀ (l : List UInt8), -256 * (l.length : Int) ≤ sumB f l ∧ sumB f l ≤ 255 * (l.length : Int)
  | [] => by rw [sumB_nil]; simp
  | c :: l => by
    have ih := sumB_bd f h l
    have := h c
    rw [sumB_cons, List.length_cons]
    omega
theorem sumB_nonneg (f : UInt8 → Int) (h : ∀ b, 0 ≤ f b) : ∀ (l : List UInt8), 0 ≤ sumB f l
  | [] => by rw [sumB_nil]; simp
  | c :: l => by
    have ih := sumB_nonneg f h l
    have := h c
    rw [sumB_cons]; omega
theorem sumB_rep (f : UInt8 → Int) (c : UInt8) : ∀ n : Nat, sumB f (List.replicate n c) = n * f c
  | 0 => by simp [sumB_nil]
  | n + 1 => by
    rw [List.replicate_succ, sumB_cons, sumB_rep f c n, Int.natCast_succ, Int.add_mul]; omega
def uby (b : UInt8) : Int := (b.toNat : Int)
theorem uby_bd (b : UInt8) : 0 ≤ uby b ∧ uby b ≤ 255 := by unfold uby; have := u8_lt b; omega
/-- the block with k blanks in its checksum's field -/
def blankK (l : List UInt8) (k : Nat) : List UInt8 := l.take 148 ++ List.replicate k 32 ++ l.drop (148 + k)
def blank (l : List UInt8) : List UInt8 := blankK l 8
theorem blankK_zero (l : List UInt8) : blankK l 0 = l := by unfold blankK; rw [List.replicate_zero, List.append_nil, Nat.add_zero, List.take_append_drop]
theorem blankK_len (l : List UInt8) (k : Nat) (h : 148 + k ≤ l.length) : (blankK l k).length = l.length := by
  unfold blankK; rw [List.length_append, List.length_append, List.length_replicate, List.length_take, List.length_drop]; omega
theorem blankK_set (l : List UInt8) (k : Nat) (h : 148 + k < l.length) : (blankK l k).set (148 + k) 32 = blankK l (k + 1) := by
  have hl : (l.take 148 ++ List.replicate k (32 : UInt8)).length = 148 + k := by rw [List.length_append, List.length_replicate, List.length_take]; omega
  unfold blankK
  rw [List.set_append_right _ _ (by omega), hl, Nat.sub_self, List.drop_eq_getElem_cons h, List.set_cons_zero, List.replicate_succ', show 148 + (k + 1) = 148 + k + 1 by omega]
  simp
theorem blank_len (l : List UInt8) (h : l.length = 512) : (blank l).length = 512 := by rw [blank, blankK_len _ _ (by omega), h]
/-- a sum of the block, its field taken for blanks -/
def Plain.sum (f : UInt8 → Int) (l : List UInt8) : Int := sumB f (l.take 148) + 8 * f 32 + sumB f (l.drop 156)
theorem blank_sum (f : UInt8 → Int) (l : List UInt8) : sumB f (blank l) = Plain.sum f l := by
  unfold blank blankK Plain.sum
  rw [sumB_app, sumB_app, sumB_rep]; rfl
/-- the sum as far as i, the field left out -/
def Plain.sumTo (f : UInt8 → Int) (l : List UInt8) (i : Nat) : Int := sumB f (l.take (min i 148)) + 8 * f 32 + sumB f ((l.take i).drop 156)
theorem sumTo_zero (f : UInt8 → Int) (l : List UInt8) : Plain.sumTo f l 0 = 8 * f 32 := by
  unfold Plain.sumTo; rw [Nat.zero_min, List.take_zero, List.drop_nil, sumB_nil]; omega
theorem sumTo_end (f : UInt8 → Int) (l : List UInt8) (h : l.length = 512) : Plain.sumTo f l 512 = Plain.sum f l := by
  unfold Plain.sumTo Plain.sum; rw [show min 512 148 = 148 by rfl, List.take_of_length_le (by omega : l.length ≤ 512)]
theorem sumTo_skip (f : UInt8 → Int) (l : List UInt8) (i : Nat) (h1 : 148 ≤ i) (h2 : i < 156) : Plain.sumTo f l (i + 1) = Plain.sumTo f l i := by
  unfold Plain.sumTo
  rw [show min (i + 1) 148 = 148 by omega, show min i 148 = 148 by omega, List.drop_of_length_le (l := l.take (i + 1)) (by rw [List.length_take]; omega), List.drop_of_length_le (l := l.take i) (by rw [List.length_take]; omega)]
theorem sumTo_step (f : UInt8 → Int) (l : List UInt8) (i : Nat) (h : i < l.length) (h1 : i < 148 ∨ 156 ≤ i) : Plain.sumTo f l (i + 1) = Plain.sumTo f l i + f (l.getD i 0) := by
  unfold Plain.sumTo
  rcases h1 with h1 | h1
  · rw [show min (i + 1) 148 = i + 1 by omega, show min i 148 = i by omega, sumB_step f l i h, List.drop_of_length_le (l := l.take (i + 1)) (by rw [List.length_take]; omega), List.drop_of_length_le (l := l.take i) (by rw [List.length_take]; omega)]
    omega
  · have hg : l.getD i 0 = l[i] := by simp [List.getD, List.getElem?_eq_getElem h]
    rw [show min (i + 1) 148 = 148 by omega, show min i 148 = 148 by omega, List.take_succ_eq_append_getElem h, List.drop_append_of_le_length (by rw [List.length_take]; omega), sumB_app, sumB_cons, sumB_nil, hg]
    omega
theorem sumTo_bd (f : UInt8 → Int) (hf : ∀ b, -256 ≤ f b ∧ f b ≤ 255) (l : List UInt8) (i : Nat) (h : i ≤ 512) : -200000 ≤ Plain.sumTo f l i ∧ Plain.sumTo f l i ≤ 200000 := by
  unfold Plain.sumTo
  have h1 := sumB_bd f hf (l.take (min i 148))
  have h2 := sumB_bd f hf ((l.take i).drop 156)
  have h3 := hf 32
  have l1 : (l.take (min i 148)).length ≤ 148 := by rw [List.length_take]; omega
  have l2 : ((l.take i).drop 156).length ≤ 356 := by rw [List.length_drop, List.length_take]; omega
  omega
theorem sum_bd (f : UInt8 → Int) (hf : ∀ b, -256 ≤ f b ∧ f b ≤ 255) (l : List UInt8) (h : l.length = 512) : -200000 ≤ Plain.sum f l ∧ Plain.sum f l ≤ 200000 := by
  rw [← sumTo_end f l h]; exact sumTo_bd f hf l 512 (Nat.le_refl _)
theorem sumTake_bd (f : UInt8 → Int) (hf : ∀ b, -256 ≤ f b ∧ f b ≤ 255) (l : List UInt8) (k : Nat) (h : k ≤ 512) : -200000 ≤ sumB f (l.take k) ∧ sumB f (l.take k) ≤ 200000 := by
  have h1 := sumB_bd f hf (l.take k)
  have l1 : (l.take k).length ≤ 512 := by rw [List.length_take]; omega
  omega
theorem uby_wide (b : UInt8) : -256 ≤ uby b ∧ uby b ≤ 255 := by have := uby_bd b; omega
theorem sby_wide (b : UInt8) : -256 ≤ sby b ∧ sby b ≤ 255 := by have := sby_bd b; omega
theorem sum_uby_bd (l : List UInt8) (h : l.length = 512) : 256 ≤ Plain.sum uby l ∧ Plain.sum uby l ≤ 130560 := by
  have h1 := sumB_bd uby uby_wide (l.take 148)
  have h2 := sumB_bd uby uby_wide (l.drop 156)
  have h3 := sumB_nonneg uby (fun b => (uby_bd b).1) (l.take 148)
  have h4 := sumB_nonneg uby (fun b => (uby_bd b).1) (l.drop 156)
  have l1 : (l.take 148).length ≤ 148 := by rw [List.length_take]; omega
  have l2 : (l.drop 156).length = 356 := by rw [List.length_drop]; omega
  have h5 : uby 32 = 32 := rfl
  unfold Plain.sum
  rw [h5]
  omega
end Go.Proofs.YtjchaogfmnabfaaDoor
