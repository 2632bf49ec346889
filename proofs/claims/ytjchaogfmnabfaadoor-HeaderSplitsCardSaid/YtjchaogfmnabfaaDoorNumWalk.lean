/-
  NumWalk: numeral.Number and the reference's.
-/
import Derived.Test.YtjchaogfmnabfaaDoorBinRef
import Derived.Test.YtjchaogfmnabfaaDoorRefOct
import Derived.Test.YtjchaogfmnabfaaDoorOctWalk
import Derived.Test.YtjchaogfmnabfaaDoorPutLaw
namespace Go.Proofs.YtjchaogfmnabfaaDoor
open Go.ChangeShapes Go.WideShapes Go.ChangeAt Go.RowKit
/-- how the test at a field's head answers -/
theorem number_cases {w : World} {a : Option Addr} {n c : Nat} {l : List UInt8} (h : Bs w a n c l) :
    (n = 0 ∧ Plain.number l = Plain.octal l) ∨ (∃ b off, ∃ G : Int, 0 < n ∧ a = some ⟨b, off, none⟩ ∧ w.cell? ⟨b, off, none⟩ = some (.int .u8 G) ∧ ((128 ≤ G ∧ Plain.number l = Plain.base256 l) ∨ (G < 128 ∧ Plain.number l = Plain.octal l))) := by
  have hl := h.len
  by_cases h0 : n = 0
  · exact .inl ⟨h0, by unfold Plain.number; rw [if_neg (by omega)]⟩
  · right
    obtain ⟨b, off, ha, hc⟩ := h.at 0 (by omega)
    rw [Nat.add_zero] at hc
    refine ⟨b, off, _, by omega, ha, hc, ?_⟩
    by_cases hg : 128 ≤ (l.getD 0 0).toNat
    · exact .inl ⟨by omega, by unfold Plain.number; rw [if_pos ⟨by omega, hg⟩]⟩
    · exact .inr ⟨by omega, by unfold Plain.number; rw [if_neg (fun h => hg h.2)]⟩
set_option maxHeartbeats 800000 in
theorem Number_any (a : Option Addr) (n c : Nat) (l : List UInt8) (w : World) (ev : Value) (h : Bs w a n c l) (hc : n ≤ 140737488355328) (hE : ErrIs w ev) :
    Calls Tryd.prog 45 #[.slice a n c] w fun e w' => e = .returned (decV (Plain.number l)) ∧ Below w.heap.size w w' := by
  have hB := Base256_any a n c l w h
  have hO := Octal_any a n c l w ev h hc hE
  have hq := number_cases h
  have HB := Lib.hid hB; have HO := Lib.hid hO; clear hB hO h hE
  rcases hq with ⟨rfl, hq⟩ | ⟨b, off, G, hn, rfl, hcell, ⟨hG, hq⟩ | ⟨hG, hq⟩⟩
  · rw [hq]; clear hq
    go_enter Tryd.func45, Tryd.ntmps45
    go_wp2_with (go_at_call 65; (with_reducible refine (HO.out).mono ?_); rintro e w1 ⟨rfl, hb⟩; unfold decV)
    go_ret2
    exact ⟨rfl, hb⟩
  · rw [hq]; clear hq
    have hn1 : (0 : Int) < n := by omega
    go_enter Tryd.func45, Tryd.ntmps45
    go_wp2_with (go_at_call 64; (with_reducible refine (HB.out).mono ?_); rintro e w1 ⟨rfl, hw⟩; obtain rfl := hw; unfold decV)
    go_ret2
    exact ⟨rfl, Below.refl _ _⟩
  · rw [hq]; clear hq
    have hn1 : (0 : Int) < n := by omega
    have hG2 : ¬ 128 ≤ G := by omega
    go_enter Tryd.func45, Tryd.ntmps45
    go_wp2_with (go_at_call 65; (with_reducible refine (HO.out).mono ?_); rintro e w1 ⟨rfl, hb⟩; unfold decV)
    go_ret2
    exact ⟨rfl, hb⟩
set_option maxHeartbeats 800000 in
theorem RefNumber_any (a : Option Addr) (n c : Nat) (l : List UInt8) (w : World) (h : Bs w a n c l) :
    Calls Tryd.prog 67 #[.slice a n c] w fun e w' => e = .returned (decV (Plain.number l)) ∧ Below w.heap.size w w' := by
  have hB := RefBase256_any a n c l w h
  have hO := RefOctal_any a n c l w h
  have hq := number_cases h
  have HB := Lib.hid hB; have HO := Lib.hid hO; clear hB hO h
  rcases hq with ⟨rfl, hq⟩ | ⟨b, off, G, hn, rfl, hcell, ⟨hG, hq⟩ | ⟨hG, hq⟩⟩
  · rw [hq]; clear hq
    go_enter Tryd.func67, Tryd.ntmps67
    go_wp2_with (go_at_call 84; (with_reducible refine (HO.out).mono ?_); rintro e w1 ⟨rfl, hw⟩; obtain rfl := hw; unfold decV)
    go_ret2
    exact ⟨rfl, Below.refl _ _⟩
  · rw [hq]; clear hq
    have hn1 : (0 : Int) < n := by omega
    go_enter Tryd.func67, Tryd.ntmps67
    go_wp2_with (go_at_call 83; (with_reducible refine (HB.out).mono ?_); rintro e w1 ⟨rfl, hb⟩; unfold decV)
    go_ret2
    exact ⟨rfl, hb⟩
  · rw [hq]; clear hq
    have hn1 : (0 : Int) < n := by omega
    have hG2 : ¬ 128 ≤ G := by omega
    go_enter Tryd.func67, Tryd.ntmps67
    go_wp2_with (go_at_call 84; (with_reducible refine (HO.out).mono ?_); rintro e w1 ⟨rfl, hw⟩; obtain rfl := hw; unfold decV)
    go_ret2
    exact ⟨rfl, Below.refl _ _⟩
end Go.Proofs.YtjchaogfmnabfaaDoor
