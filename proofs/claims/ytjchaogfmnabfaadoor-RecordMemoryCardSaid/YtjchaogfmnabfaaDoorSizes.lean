/-
  Sizes: record.Size and the reference's Size.
-/
import Derived.Test.YtjchaogfmnabfaaDoorShow
namespace Go.Proofs.YtjchaogfmnabfaaDoor
open Go.ChangeShapes Go.WideShapes Go.ChangeAt Go.RowKit
/-- how many digits u has -/
def nd (u : Nat) : Nat := (Lib.decDigits u).length
theorem nd_pos (u : Nat) : 1 ≤ nd u := List.length_pos_iff.2 (decDigits_ne u)
theorem nd_le (u : Nat) (h : u < 100000000000000000000) : nd u ≤ 20 := decDigits_len 19 u (by omega)
theorem nd_mono : ∀ (v u : Nat), u ≤ v → nd u ≤ nd v := by
  intro v
  induction v using Nat.strongRecOn with
  | ind v ih =>
    intro u huv
    by_cases h1 : u < 10
    · have e : nd u = 1 := by unfold nd; rw [Lib.decDigits, dif_pos h1]; rfl
      rw [e]; exact nd_pos v
    · have h2 : ¬ v < 10 := by omega
      have e1 : nd u = nd (u / 10) + 1 := by unfold nd; rw [Lib.decDigits, dif_neg h1, List.length_append]; rfl
      have e2 : nd v = nd (v / 10) + 1 := by unfold nd; rw [Lib.decDigits, dif_neg h2, List.length_append]; rfl
      have := ih (v / 10) (by omega) (u / 10) (by omega)
      omega
/-- d digits are what base + d has, and nothing below d is so -/
def IsSize (base d : Nat) : Prop := nd (base + d) = d ∧ ∀ d', d' < d → nd (base + d') ≠ d'
theorem isSize_exists (base : Nat) (h : base + 21 < 100000000000000000000) : ∃ d, d ≤ 20 ∧ IsSize base d := by
  have key : ∀ n, n ≤ 21 → (∃ d, d < n ∧ IsSize base d) ∨ (n ≤ nd (base + n) ∧ ∀ d', d' < n → nd (base + d') ≠ d') := by
    intro n
    induction n with
    | zero => intro _; exact .inr ⟨Nat.zero_le _, fun d' h => absurd h (Nat.not_lt_zero _)⟩
    | succ n ih =>
      intro hn
      rcases ih (by omega) with ⟨d, h1, h2⟩ | ⟨h1, h2⟩
      · exact .inl ⟨d, by omega, h2⟩
      · by_cases he : nd (base + n) = n
        · exact .inl ⟨n, by omega, he, h2⟩
        · have := nd_mono (base + (n + 1)) (base + n) (by omega)
          refine .inr ⟨by omega, fun d' hd' => ?_⟩
          by_cases e : d' = n
          · subst e; exact he
          · exact h2 d' (by omega)
  rcases key 21 (Nat.le_refl _) with ⟨d, h1, h2⟩ | ⟨h1, _⟩
  · exact ⟨d, by omega, h2⟩
  · have := nd_le (base + 21) h; omega
/-- a number of digits that is not the size's: the size lies behind -/
theorem IsSize.next {base d k : Nat} (h : IsSize base d) (hk : k ≤ d) (hne : nd (base + k) ≠ k) : k + 1 ≤ d := by
  by_cases e : k = d
  · subst e; exact absurd h.1 hne
  · omega
theorem IsSize.here {base d k : Nat} (h : IsSize base d) (hk : k ≤ d) (he : nd (base + k) = k) : k = d := by
  by_cases e : k = d
  · exact e
  · exact absurd he (h.2 k (by omega))
theorem IsSize.pos {base d : Nat} (h : IsSize base d) : 1 ≤ d := by
  have := nd_pos (base + d); rw [h.1] at this; exact this
set_option maxHeartbeats 800000 in
theorem Size_any (k v : List UInt8) (d : Nat) (w : World) (ht : Pow10 w) (hk : k.length ≤ 140737488351232) (hv : v.length ≤ 140737488351232) (hd : IsSize (k.length + v.length + 3) d) (hd20 : d ≤ 20) :
    Calls Tryd.prog 24 #[.agg #[.string ⟨k.toArray⟩, .string ⟨v.toArray⟩]] w fun e w' => e = .returned (.int .i64 ((k.length + v.length + 3 + d : Nat) : Int)) ∧ Below w.heap.size w w' := by
  have hp1 := hd.pos
  have HT := Lib.hid ht; have HD := Lib.hid hd; clear ht hd
  go_enter Tryd.func24, Tryd.ntmps24
  go_wp2
  go_loopw [4] (fun i wr => ∃ j : Nat, 1 ≤ j ∧ j ≤ d ∧ i = .int .i64 j ∧ Below w.heap.size w wr) (fun i _ => d - (intOf i).toNat)
  case atStart => exact ⟨1, by omega, hp1, rfl, (Below.refl _ _).alloc (Nat.le_refl _) _⟩
  case round =>
    obtain ⟨j, hj1, hj, rfl, hb⟩ := hrel
    have hS := Show_any ((k.length : Int) + v.length + 3 + j) (by omega) (by omega) wr (HT.out.below hb)
    have hlen : (Lib.itoa ((k.length : Int) + v.length + 3 + j)).length = nd (k.length + v.length + 3 + j) := by
      have e : ((k.length : Int) + v.length + 3 + j) = ((k.length + v.length + 3 + j : Nat) : Int) := by omega
      rw [e, Lib.itoa_nonneg]; rfl
    generalize Lib.itoa ((k.length : Int) + v.length + 3 + j) = s at *
    have HS := Lib.hid hS; clear hS
    by_cases he : nd (k.length + v.length + 3 + j) = j
    · obtain rfl := HD.out.here hj he
      rw [he] at hlen
      have hq : ((s.length : Int) == (j : Int)) = true := by rw [beq_iff_eq]; omega
      go_wp2_with (go_at_call 38; refine (HS.out).mono ?_; rintro e w1 ⟨rfl, hb1⟩)
      go_ret
      exact ⟨by go_num, Below.seq hb hb1⟩
    · have hn := HD.out.next hj he
      have hq : ((s.length : Int) == (j : Int)) = false := by rw [beq_eq_false_iff_ne]; omega
      clear he hlen
      go_wp2_with (go_at_call 38; refine (HS.out).mono ?_; rintro e w1 ⟨rfl, hb1⟩)
      exact ⟨⟨j + 1, by omega, hn, by go_num, Below.seq hb hb1⟩, by simp [intOf]; omega⟩
set_option maxHeartbeats 800000 in
theorem RefSize_any (k v : List UInt8) (d : Nat) (w : World) (hk : k.length ≤ 140737488351232) (hv : v.length ≤ 140737488351232) (hd : IsSize (k.length + v.length + 3) d) (hd20 : d ≤ 20) :
    Calls Tryd.prog 39 #[.agg #[.string ⟨k.toArray⟩, .string ⟨v.toArray⟩]] w fun e w' => e = .returned (.int .i64 ((k.length + v.length + 3 + d : Nat) : Int)) ∧ Below w.heap.size w w' := by
  have hp1 := hd.pos
  have HD := Lib.hid hd; clear hd
  generalize hn : k.length + v.length + 3 = n at *
  have hni : (k.length : Int) + v.length + 3 = n := by omega
  go_enter Tryd.func39, Tryd.ntmps39
  go_wp2
  go_loopw [4] (fun i wr => ∃ j : Nat, 1 ≤ j ∧ j ≤ d ∧ i = .int .i64 ((n : Int) + j) ∧ Below w.heap.size w wr) (fun i _ => n + d - (intOf i).toNat)
  case atStart => exact ⟨1, by omega, hp1, by go_num, (Below.refl _ _).alloc (Nat.le_refl _) _⟩
  case round =>
    obtain ⟨j, hj1, hj, rfl, hb⟩ := hrel
    have hS := RefShow_any ((n : Int) + j) (by omega) (by omega) wr
    have hlen : (Lib.itoa ((n : Int) + j)).length = nd (n + j) := by
      have e : ((n : Int) + j) = ((n + j : Nat) : Int) := by omega
      rw [e, Lib.itoa_nonneg]; rfl
    generalize Lib.itoa ((n : Int) + j) = s at *
    have HS := Lib.hid hS; clear hS
    by_cases he : nd (n + j) = j
    · obtain rfl := HD.out.here hj he
      rw [he] at hlen
      have hq : ((s.length : Int) + n != (n : Int) + j) = false := by rw [bne_eq_false_iff_eq]; omega
      go_wp2_with (go_at_call 40; refine (HS.out).mono ?_; rintro e w1 ⟨rfl, hb1⟩)
      go_ret
      exact ⟨by go_num, Below.seq hb hb1⟩
    · have hn := HD.out.next hj he
      have hq : ((s.length : Int) + n != (n : Int) + j) = true := by rw [bne_iff_ne]; omega
      have hsb : s.length ≤ 20 := by rw [hlen]; exact nd_le _ (by omega)
      clear he hlen
      go_wp2_with (go_at_call 40; refine (HS.out).mono ?_; rintro e w1 ⟨rfl, hb1⟩)
      exact ⟨⟨j + 1, by omega, hn, by go_num, Below.seq hb hb1⟩, by simp [intOf]; omega⟩
end Go.Proofs.YtjchaogfmnabfaaDoor
