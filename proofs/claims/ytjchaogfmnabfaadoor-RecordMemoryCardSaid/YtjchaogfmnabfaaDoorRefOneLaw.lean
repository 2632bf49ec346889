/-
  RefOneLaw: what the reference's one answers behind its second loop. No program.
-/
import Derived.Test.YtjchaogfmnabfaaDoorRecLaw
namespace Go.Proofs.YtjchaogfmnabfaaDoor
/-- the text's head ends at q -/
theorem text_head (l : List UInt8) (d q Y : Nat) (h1 : d + 1 ≤ q) (h2 : q ≤ Y) (hY : Y ≤ l.length) (hno : ∀ k, d + 1 ≤ k → k < q → l.getD k 0 ≠ 61) (hat : q < Y → l.getD q 0 = 61) :
    ((l.take Y).drop (d + 1)).takeWhile (· != 61) = (l.take q).drop (d + 1) := by
  have hlen : ((l.take Y).drop (d + 1)).length = Y - (d + 1) := by rw [List.length_drop, List.length_take]; omega
  have hall : (((l.take Y).drop (d + 1)).take (q - (d + 1))).all (· != 61) = true := by
    rw [List.all_eq_true]
    intro x hx
    obtain ⟨k, hk, rfl⟩ := List.mem_take_iff_getElem.1 hx
    have hk2 : k < q - (d + 1) := by omega
    have := hno (d + 1 + k) (by omega) (by omega)
    have hk3 : d + 1 + k < l.length := by omega
    rw [List.getElem_drop, List.getElem_take]
    simpa [List.getD, List.getElem?_eq_getElem hk3] using this
  have := while_at (p := (· != 61)) ((l.take Y).drop (d + 1)) (q - (d + 1)) (by rw [hlen]; omega) hall (fun hlt => by
    rw [hlen] at hlt
    have hq : q < Y := by omega
    have e := hat hq
    rw [drop_getD, show d + 1 + (q - (d + 1)) = q by omega, take_getD l Y q hq, e]
    rfl)
  rw [this.1, List.take_drop, List.take_take, show min (d + 1 + (q - (d + 1))) Y = q by omega]
theorem text_at (l : List UInt8) (d q Y : Nat) (h1 : d + 1 ≤ q) (h2 : q ≤ Y) (hY : Y ≤ l.length) (hno : ∀ k, d + 1 ≤ k → k < q → l.getD k 0 ≠ 61) (hat : q < Y → l.getD q 0 = 61) :
    recText ((l.take Y).drop (d + 1)) = if q = Y ∨ q = d + 1 then none else some ((l.take q).drop (d + 1), (l.take Y).drop (q + 1)) := by
  have hh := text_head l d q Y h1 h2 hY hno hat
  have hlen : ((l.take Y).drop (d + 1)).length = Y - (d + 1) := by rw [List.length_drop, List.length_take]; omega
  have hl2 : ((l.take q).drop (d + 1)).length = q - (d + 1) := by rw [List.length_drop, List.length_take]; omega
  unfold recText
  rw [hh, hlen, hl2]
  by_cases hc : q = Y ∨ q = d + 1
  · rw [if_pos hc, if_neg]
    rintro ⟨a, b⟩
    rcases hc with hc | hc
    · omega
    · exact b (List.eq_nil_of_length_eq_zero (by rw [hl2]; omega))
  · rw [if_neg hc, if_pos]
    · rw [List.drop_drop, show d + 1 + (q - (d + 1) + 1) = q + 1 by omega]
    · exact ⟨by omega, fun e => by rw [e] at hl2; simp at hl2; omega⟩
end Go.Proofs.YtjchaogfmnabfaaDoor
