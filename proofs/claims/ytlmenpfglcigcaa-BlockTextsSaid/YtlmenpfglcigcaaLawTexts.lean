/-
  LawTexts: the law BlockTexts, walked.
-/
import Derived.Test.YtlmenpfglcigcaaText
namespace Go.Proofs.Ytlmenpfglcigcaa
open Go.ChangeShapes Go.WideShapes Go.ChangeAt Go.RowKit
set_option maxHeartbeats 400000 in
theorem BlockTexts_walk (a : Option Addr) (n c : Nat) (l : List UInt8) (w : World) (h : Bs w a n c l) (hc : c ≤ 140737488351232) :
    Calls Try.prog 5 #[.slice a n c] w fun e w' => e = .returned (.bool true) ∧ Below w.heap.size w w' := by
  have hl := h.len; have hcap := h.cap
  have ht : Plain.text [97, 98, 0, 99] = [97, 98] := by decide
  have hB : Bs (w.alloc (.cells #[.int .u8 97, .int .u8 98, .int .u8 0, .int .u8 99] 5 (4, 5))) (some ⟨w.heap.size, 0, none⟩) 4 4 [97, 98, 0, 99] := isSl_mark w 5 1 4 _ _ rfl (by decide)
  have HT := Lib.hid ht; have HL := Lib.hid hl; clear ht hl
  have kc := fun (w : World) (C : Array Value) (n c : Nat) => Lib.run_convert_bytes_const (P := Try.prog) w 22 5 C n c Try.underlying22 Try.underlying5
  go_enter Try.func5, Try.ntmps5
  go_wp2_with fail
  refine (Text_any _ _ _ _ _ hB).mono ?_; rintro e w1 ⟨rfl, rfl⟩; rw [HT.out]
  go_wp2_with fail
  have b1 : Below w.heap.size w (w.alloc (.cells #[.int .u8 97, .int .u8 98, .int .u8 0, .int .u8 99] 5 (4, 5))) := (Below.refl _ _).alloc (Nat.le_refl _) _
  refine (Spare_any _ _ _ l _ (Below.bs b1 h) (by omega)).mono ?_; rintro e w1 ⟨a1, m, c1, rfl, ho1, hb1⟩
  have hF := own_bs ho1
  have hh := Below.bs hb1 (Below.bs b1 h)
  have hM : n + 8 = m := by rw [← own_len ho1, List.length_append, HL.out]; rfl
  have hcut : ∀ {w : World} {a2 : Option Addr} {k : Nat}, Bs w a2 (n - 0) k (((l ++ marks).take n).drop 0) → Bs w a2 n k l := fun {w a2 k} hx => by
    rw [List.drop_zero, List.take_append_of_le_length (by rw [HL.out]; exact Nat.le_refl _), List.take_of_length_le (by rw [HL.out]; exact Nat.le_refl _)] at hx
    exact hx
  have hc1 := hF.cap
  have hnm : n ≤ m := by omega
  clear hM
  go_wp2_with (first | (with_reducible refine wpList_slice_bs rfl _ _ _ _ rfl Try.underlying22 (by kernel_rfl) rfl hF 0 n .i64 .i64 rfl rfl (by omega) hnm ?_; intro a2 hb2) | fail)
  refine (Text_any _ _ _ l _ (hcut hb2)).mono ?_; rintro e w2 ⟨rfl, rfl⟩
  go_wp2_with fail
  refine (RefText_any _ _ _ l _ hh).mono ?_; rintro e w2 ⟨rfl, hb3⟩
  go_wp2_with fail
  refine (Spare_any _ _ _ l _ (Below.bs hb3 hh) (by omega)).mono ?_; rintro e w3 ⟨a4, m4, c4, rfl, ho4, hb4⟩
  have hG := own_bs ho4
  go_wp2_with fail
  refine (SameBytes_any _ _ _ _ _ _ _ _ _ (Below.bs hb4 (Below.bs hb3 hF)) hG).mono ?_; rintro e w4 ⟨rfl, hb5⟩
  go_wp2
  go_ret
  exact ⟨ret_bool (by simp), (b1.trans (hb1.mono (by simp))).trans ((hb3.mono (by have := hb1.size; simp at this; omega)).trans ((hb4.mono (by have := hb1.size; have := hb3.size; simp at *; omega)).trans (hb5.mono (by have := hb1.size; have := hb3.size; have := hb4.size; simp at *; omega))))⟩
end Go.Proofs.Ytlmenpfglcigcaa
