/-
  LawOct: 'alive', and the law NumeralBlanks, walked.
-/
import Derived.Test.YtamgiffkhnfpmaaDoorOctWalk
import Derived.Test.YtamgiffkhnfpmaaDoorCopy
namespace Go.Proofs.YtamgiffkhnfpmaaDoor
open Go.ChangeShapes Go.WideShapes Go.ChangeAt Go.RowKit
theorem bs17 (w : World) : Bs (w.alloc (.cells #[.int .u8 32, .int .u8 49, .int .u8 55, .int .u8 32] 5 (4, 5))) (some ⟨w.heap.size, 0, none⟩) 4 4 [32, 49, 55, 32] :=
  isSl_mark w 5 1 4 #[.int .u8 32, .int .u8 49, .int .u8 55, .int .u8 32] _ rfl (by unfold maxLen; omega)
set_option maxHeartbeats 400000 in
theorem Alive_any (w : World) (ev : Value) (hE : ErrIs w ev) : Calls Tryd.prog 7 #[] w fun e w' => e = .returned (.bool true) ∧ Below w.heap.size w w' := by
  have hv : Plain.octal [32, 49, 55, 32] = (15, 0) := by decide +kernel
  have HV := Lib.hid hv; have HE := Lib.hid hE; clear hv hE
  have kc := fun (w : World) (C : Array Value) (n c : Nat) => Lib.run_convert_bytes_const (P := Tryd.prog) w 23 5 C n c Tryd.underlying23 Tryd.underlying5
  have hb := (Below.refl w.heap.size w).alloc (Nat.le_refl _) (.cells #[.int .u8 32, .int .u8 49, .int .u8 55, .int .u8 32] 5 (4, 5))
  have HB := Lib.hid hb; clear hb
  go_enter Tryd.func7, Tryd.ntmps7
  go_wp2_with (go_at_call 27; refine (Octal_any _ 4 4 [32, 49, 55, 32] _ ev (by exact bs17 w) (by decide) (by exact HE.out.below HB.out)).mono ?_; rintro e w1 ⟨rfl, hb1⟩; rw [HV.out]; unfold decV)
  go_ret
  exact ⟨ret_bool (by rfl), Below.seq HB.out hb1⟩
theorem dropWhile_snoc {p : UInt8 → Bool} (l : List UInt8) (c : UInt8) (hc : p c = false) : (l ++ [c]).dropWhile p = l.dropWhile p ++ [c] := by
  cases h : l.all p with
  | true => rw [dropWhile_pass l [c] h, dropWhile_all l h, List.dropWhile_cons_of_neg (by rw [hc]; exact Bool.false_ne_true)]; rfl
  | false => exact dropWhile_join l [c] h
theorem octHead_snoc (m : List UInt8) (c : UInt8) (hc : isOct c = false) : octHead (m ++ [c]) = octHead m := by
  have h1 := oct_split (m ++ [c])
  have h2 : octTail (m ++ [c]) = octTail m ++ [c] := dropWhile_snoc m c hc
  rw [h2, ← List.append_assoc] at h1
  have h3 := List.append_cancel_right h1
  have h4 := oct_split m
  rw [← h4] at h3
  rw [oct_split m] at h3
  exact List.append_cancel_right (by rw [h3, h4] : octHead (m ++ [c]) ++ octTail m = octHead m ++ octTail m)
/-- a blank ahead and a byte 0 behind change nothing -/
theorem octal_wide (l : List UInt8) : Plain.octal ([32] ++ l ++ [0]) = Plain.octal l := by
  have e : ([32] ++ l ++ [0]).dropWhile (· == 32) = l.dropWhile (· == 32) ++ [0] := by
    rw [List.append_assoc, List.singleton_append, List.dropWhile_cons_of_pos (by rfl), dropWhile_snoc l 0 (by rfl)]
  have h2 : octTail (l.dropWhile (· == 32) ++ [0]) = octTail (l.dropWhile (· == 32)) ++ [0] := dropWhile_snoc _ 0 (by decide)
  unfold Plain.octal
  simp only [e, h2, octHead_snoc _ 0 (by decide), List.all_append]
  have h0 : ([0] : List UInt8).all isGap = true := by decide
  rw [h0, Bool.and_true]
end Go.Proofs.YtamgiffkhnfpmaaDoor
