/-
  LawNum: the laws NumeralOctals and NumeralBases, walked.
-/
import Derived.Test.YtccochopiaojnaaDoorLawOct
import Derived.Test.YtccochopiaojnaaDoorNumWalk
import Derived.Test.YtccochopiaojnaaDoorUseBytes
namespace Go.Proofs.YtccochopiaojnaaDoor
open Go.ChangeShapes Go.WideShapes Go.ChangeAt Go.RowKit
theorem cut_marks {w : World} {a2 : Option Addr} {n k : Nat} {l : List UInt8} (hl : l.length = n) (hx : Bs w a2 (n - 0) k (((l ++ marks).take n).drop 0)) : Bs w a2 n k l := by
  rw [List.drop_zero, List.take_append_of_le_length (by rw [hl]; exact Nat.le_refl _), List.take_of_length_le (by rw [hl]; exact Nat.le_refl _)] at hx
  exact hx
set_option maxRecDepth 100000 in
set_option maxHeartbeats 1600000 in
theorem NumeralOctals_walk (a : Option Addr) (n c : Nat) (l : List UInt8) (w : World) (ev : Value) (hE : ErrIs w ev) (h : Bs w a n c l) (hc : c ≤ 140737488351232) :
    Calls Tryd.prog 6 #[.slice a n c] w fun e w' => e = .returned (.bool true) ∧ Below w.heap.size w w' := by
  have hl := h.len; have hcap := h.cap
  have HE := Lib.hid hE; have HH := Lib.hid h; have HL := Lib.hid hl; clear hE h hl
  generalize hr : Plain.octal l = r at *
  obtain ⟨r1, r2⟩ := r
  have HR := Lib.hid hr; clear hr
  go_enter Tryd.func6, Tryd.ntmps6
  go_wp2_with (go_at_call 20; refine (Alive_any w ev HE.out).mono ?_; rintro e w1 ⟨rfl, hb1⟩; have HB1 := Lib.hid hb1; clear hb1)
  refine (Spare_any a n c l w1 (by exact Below.bs HB1.out HH.out) (by omega)).mono ?_; rintro e w2 ⟨a2, m2, c2, rfl, ho2, hb2⟩
  have hF := own_bs ho2
  have HB2 := Lib.hid (Below.seq HB1.out hb2)
  have hM : n + 8 = m2 := by rw [← own_len ho2, List.length_append, HL.out]; rfl
  have hc2 := hF.cap
  have hnm : n ≤ m2 := by omega
  have HF := Lib.hid hF
  clear hM ho2 hb2 hF
  go_wp2_with (first
    | ((with_reducible refine wpList_slice_bs rfl _ _ _ _ rfl Tryd.underlying29 (by kernel_rfl) rfl HF.out 0 n .i64 .i64 rfl rfl (by omega) hnm ?_); intro a3 hb3; have HC3 := Lib.hid (cut_marks HL.out hb3); clear hb3)
    | (go_at_call 19; (refine (Octal_any a3 n _ l w2 ev (by exact HC3.out) (by omega) (by exact HE.out.below HB2.out)).mono ?_); rintro e w3 ⟨rfl, hb3⟩; rw [HR.out]; unfold decV; have HB3 := Lib.hid (Below.seq HB2.out hb3); have HF3 := Lib.hid (Below.bs hb3 HF.out); clear hb3)
    | (go_at_call 22; (refine (RefOctal_any a n c l w3 (by exact Below.bs HB3.out HH.out)).mono ?_); rintro e w4 ⟨rfl, hw⟩; obtain rfl := hw; rw [HR.out]; unfold decV)
    | (go_at_call 21; (refine (Spare_any a n c l w3 (by exact Below.bs HB3.out HH.out) (by omega)).mono ?_); rintro e w5 ⟨a5, m5, c5, rfl, ho5, hb5⟩; have HG := Lib.hid (own_bs ho5); have HB5 := Lib.hid (Below.seq HB3.out hb5); have HF5 := Lib.hid (Below.bs hb5 HF3.out); clear ho5 hb5)
    | (go_at_call 23; (refine (SameBytes_any a2 a5 m2 m5 c2 c5 _ _ w5 (by exact HF5.out) (by exact HG.out)).mono ?_); rintro e w6 ⟨rfl, hb6⟩; have HB6 := Lib.hid (Below.seq HB5.out hb6); clear hb6))
  go_ret
  exact ⟨ret_bool (by simp), HB6.out⟩
set_option maxRecDepth 100000 in
set_option maxHeartbeats 1600000 in
theorem NumeralBases_walk (a : Option Addr) (n c : Nat) (l : List UInt8) (w : World) (ev : Value) (hE : ErrIs w ev) (h : Bs w a n c l) (hc : c ≤ 140737488351232) :
    Calls Tryd.prog 8 #[.slice a n c] w fun e w' => e = .returned (.bool true) ∧ Below w.heap.size w w' := by
  have hl := h.len; have hcap := h.cap
  have HE := Lib.hid hE; have HH := Lib.hid h; have HL := Lib.hid hl; clear hE h hl
  generalize hr : Plain.base256 l = r at *
  obtain ⟨r1, r2⟩ := r
  generalize hs : Plain.number l = s at *
  obtain ⟨s1, s2⟩ := s
  have HR := Lib.hid hr; have HS := Lib.hid hs; clear hr hs
  go_enter Tryd.func8, Tryd.ntmps8
  go_wp2_with (go_at_call 20; refine (Alive_any w ev HE.out).mono ?_; rintro e w1 ⟨rfl, hb1⟩; have HB1 := Lib.hid hb1; clear hb1)
  refine (Spare_any a n c l w1 (by exact Below.bs HB1.out HH.out) (by omega)).mono ?_; rintro e w2 ⟨a2, m2, c2, rfl, ho2, hb2⟩
  have hF := own_bs ho2
  have HB2 := Lib.hid (Below.seq HB1.out hb2)
  have hM : n + 8 = m2 := by rw [← own_len ho2, List.length_append, HL.out]; rfl
  have hc2 := hF.cap
  have hnm : n ≤ m2 := by omega
  have HF := Lib.hid hF
  clear hM ho2 hb2 hF
  go_wp2_with (first
    | (go_at_call 25; (refine (Base256_any a3 n _ l w2 (by exact HC3.out)).mono ?_); rintro e w3 ⟨rfl, hw⟩; obtain rfl := hw; rw [HR.out]; unfold decV)
    | ((with_reducible refine wpList_slice_bs rfl _ _ _ _ rfl Tryd.underlying29 (by kernel_rfl) rfl HF.out 0 n .i64 .i64 rfl rfl (by omega) hnm ?_); intro a3 hb3; have HC3 := Lib.hid (cut_marks HL.out hb3); clear hb3)
    | (go_at_call 26; (refine (RefBase256_any a n c l w2 (by exact Below.bs HB2.out HH.out)).mono ?_); rintro e w4 ⟨rfl, hb4⟩; rw [HR.out]; unfold decV; have HB4 := Lib.hid (Below.seq HB2.out hb4); have HF4 := Lib.hid (Below.bs hb4 HF.out); clear hb4)
    | ((with_reducible refine wpList_slice_bs rfl _ _ _ _ rfl Tryd.underlying29 (by kernel_rfl) rfl HF4.out 0 n .i64 .i64 rfl rfl (by omega) hnm ?_); intro a7 hb7; have HC7 := Lib.hid (cut_marks HL.out hb7); clear hb7)
    | (go_at_call 27; (refine (Number_any a7 n _ l w4 ev (by exact HC7.out) (by omega) (by exact HE.out.below HB4.out)).mono ?_); rintro e w8 ⟨rfl, hb8⟩; rw [HS.out]; unfold decV; have HB8 := Lib.hid (Below.seq HB4.out hb8); have HF8 := Lib.hid (Below.bs hb8 HF4.out); clear hb8)
    | (go_at_call 28; (refine (RefNumber_any a n c l w8 (by exact Below.bs HB8.out HH.out)).mono ?_); rintro e w9 ⟨rfl, hb9⟩; rw [HS.out]; unfold decV; have HB9 := Lib.hid (Below.seq HB8.out hb9); have HF9 := Lib.hid (Below.bs hb9 HF8.out); clear hb9)
    | (go_at_call 21; (refine (Spare_any a n c l w9 (by exact Below.bs HB9.out HH.out) (by omega)).mono ?_); rintro e w5 ⟨a5, m5, c5, rfl, ho5, hb5⟩; have HG := Lib.hid (own_bs ho5); have HB5 := Lib.hid (Below.seq HB9.out hb5); have HF5 := Lib.hid (Below.bs hb5 HF9.out); clear ho5 hb5)
    | (go_at_call 23; (refine (SameBytes_any a2 a5 m2 m5 c2 c5 _ _ w5 (by exact HF5.out) (by exact HG.out)).mono ?_); rintro e w6 ⟨rfl, hb6⟩; have HB6 := Lib.hid (Below.seq HB5.out hb6); clear hb6))
  go_ret
  exact ⟨ret_bool (by simp), HB6.out⟩
end Go.Proofs.YtccochopiaojnaaDoor
