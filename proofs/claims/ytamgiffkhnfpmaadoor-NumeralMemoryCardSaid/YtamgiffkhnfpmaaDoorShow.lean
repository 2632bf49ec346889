/-
  Show: numeral.Show and the reference's Show.
-/
import Derived.Test.YtamgiffkhnfpmaaDoorDec
import Derived.Test.YtamgiffkhnfpmaaDoorCopy
import Derived.Test.YtamgiffkhnfpmaaDoorRev
import Derived.Test.YtamgiffkhnfpmaaDoorShelf
import Derived.Lib.SmallJoins
namespace Go.Proofs.YtamgiffkhnfpmaaDoor
open Go.ChangeShapes Go.WideShapes Go.ChangeAt Go.RowKit
/-- the table that the library's numerals want -/
def Pow10 (w : World) : Prop := Lib.TabIs Tryd.prog w "internal/strconv.uint64pow10" .u64 Lib.pow10Tab
theorem grow_below (B : Nat) (w : World) (q : Nat) (os : Array Obj) (hB : B ≤ w.heap.size) : Below B w (Sort.grow (w.drewN q) os) :=
  ⟨rfl, rfl, rfl, by first | (simp [Sort.grow]; done) | (simp [Sort.grow]; omega), fun i hi => by
    show ((w.drewN q).heap ++ os)[i]? = _
    rw [Array.getElem?_append_left (by show i < w.heap.size; omega)]
    rfl⟩
theorem gPow10 : Tryd.prog.globalNamed "internal/strconv.uint64pow10" = some 0 := by kernel_rfl
theorem Pow10.below {w w' : World} (h : Pow10 w) (k : Below w.heap.size w w') : Pow10 w' := Joins.tab_stays gPow10 h k (Nat.le_refl _)
theorem Show_any (v : Int) (h0 : -9223372036854775808 ≤ v) (h1 : v ≤ 9223372036854775807) (w : World) (ht : Pow10 w) :
    Calls Tryd.prog 56 #[.int .i64 v] w fun e w' => e = .returned (.string ⟨(Lib.itoa v).toArray⟩) ∧ Below w.heap.size w w' := by
  have HT := Lib.hid ht; clear ht
  have hi := Lib.hid (Tryd.strconv_Itoa v h0 h1 w HT.out)
  generalize Lib.itoa v = s at *
  go_enter Tryd.func56, Tryd.ntmps56
  go_wp2_with (go_at_call 88; refine (hi.out).mono ?_; rintro e w1 ⟨rfl, k, os, hw⟩; have HW := Lib.hid hw; clear hw)
  go_ret
  exact ⟨rfl, by rw [HW.out]; exact grow_below _ _ _ _ (Nat.le_refl _)⟩
theorem decDigits_len : ∀ (k u : Nat), u < 10 ^ (k + 1) → (Lib.decDigits u).length ≤ k + 1
  | 0, u, h => by rw [Lib.decDigits, dif_pos (by simpa using h)]; simp
  | k + 1, u, h => by
    rw [Lib.decDigits]
    by_cases h1 : u < 10
    · rw [dif_pos h1]; simp
    · have := decDigits_len k (u / 10) (by rw [Nat.pow_succ] at h; omega)
      rw [dif_neg h1, List.length_append]; simp; omega
/-- the digits that are written, the last one first: what is left of u, and what stands in D -/
def Digs (N u : Nat) (D : List UInt8) : Prop := (u = 0 ∧ D.reverse = Lib.decDigits N) ∨ (u ≠ 0 ∧ Lib.decDigits N = Lib.decDigits u ++ D.reverse)
theorem Digs.start (N : Nat) (h : N ≠ 0) : Digs N N [] := .inr ⟨h, by simp⟩
theorem Digs.step {N u : Nat} {D : List UInt8} (h : Digs N u D) (hu : u ≠ 0) : Digs N (u / 10) (D ++ [UInt8.ofNat (48 + u % 10)]) := by
  rcases h with ⟨h, _⟩ | ⟨_, h⟩
  · exact absurd h hu
  · have e : Lib.decDigits u = if h : u < 10 then [UInt8.ofNat (48 + u)] else Lib.decDigits (u / 10) ++ [UInt8.ofNat (48 + u % 10)] := by rw [Lib.decDigits]
    rw [e] at h
    by_cases h1 : u < 10
    · rw [dif_pos h1] at h
      refine .inl ⟨by omega, ?_⟩
      rw [h, List.reverse_append, Nat.mod_eq_of_lt h1]; rfl
    · rw [dif_neg h1] at h
      refine .inr ⟨by omega, ?_⟩
      rw [h, List.reverse_append, List.append_assoc]; rfl
theorem Digs.len {N u : Nat} {D : List UInt8} (h : Digs N u D) (hN : N ≤ 9223372036854775808) : D.length ≤ 20 := by
  have h1 := decDigits_len 19 N (by omega)
  rcases h with ⟨_, h⟩ | ⟨_, h⟩
  · rw [← h] at h1; simpa using h1
  · rw [h] at h1; simp at h1; omega
theorem Digs.end {N : Nat} {D : List UInt8} (h : Digs N 0 D) : D.reverse = Lib.decDigits N := by
  rcases h with ⟨_, h⟩ | ⟨h, _⟩
  · exact h
  · exact absurd rfl h
theorem digit_val (u : Nat) : (.int .u8 (48 + ((u % 10 : Nat) : Int)) : Value) = u8v (UInt8.ofNat (48 + u % 10)) := by
  unfold u8v
  have e : (UInt8.ofNat (48 + u % 10)).toNat = 48 + u % 10 := by simp; omega
  rw [e]; congr 1
end Go.Proofs.YtamgiffkhnfpmaaDoor
