/-
  LawDec: the laws NumeralDecimals and NumeralShown, walked.
-/
import Derived.Test.YtccochopiaojnaaDoorDecs
import Derived.Test.YtccochopiaojnaaDoorShow
namespace Go.Proofs.YtccochopiaojnaaDoor
open Go.ChangeShapes Go.WideShapes Go.ChangeAt Go.RowKit
set_option maxRecDepth 100000 in
set_option maxHeartbeats 1600000 in
theorem NumeralDecimals_walk (l : List UInt8) (v : Int) (w : World) (ev : Value) (ht : Pow10 w) (hE : ErrIs w ev) (hl : l.length ≤ 140737488351232) (h0 : -9223372036854775808 ≤ v) (h1 : v < 9223372036854775808) :
    Calls Tryd.prog 3 #[.string ⟨l.toArray⟩, .int .i64 v] w fun e w' => e = .returned (.bool true) ∧ Below w.heap.size w w' := by
  have e90 : Lib.itoa (-90) = [45, 57, 48] := by decide +kernel
  have HT := Lib.hid ht; have HE := Lib.hid hE; have H90 := Lib.hid e90; clear ht hE e90
  have hself : ∀ s : List UInt8, (s == s) = true := fun s => by simp
  have HD : Hid (∀ w, ErrIs w ev → Calls Tryd.prog 16 #[.string ⟨l.toArray⟩] w fun e w' => e = .returned (decV (Plain.decimal l)) ∧ Below w.heap.size w w') := fun w h => Decimal_any l w ev hl h
  have HRD : Hid (∀ w, Calls Tryd.prog 17 #[.string ⟨l.toArray⟩] w fun e w' => e = .returned (decV (Plain.decimal l)) ∧ w = w') := fun w => RefDecimal_any l w hl
  have HS : Hid (∀ w, Pow10 w → Calls Tryd.prog 15 #[.int .i64 v] w fun e w' => e = .returned (.string ⟨(Lib.itoa v).toArray⟩) ∧ Below w.heap.size w w') := fun w h => Show_any v h0 (by omega) w h
  have HRS : Hid (∀ w, Calls Tryd.prog 18 #[.int .i64 v] w fun e w' => e = .returned (.string ⟨(Lib.itoa v).toArray⟩) ∧ Below w.heap.size w w') := fun w => RefShow_any v h0 (by omega) w
  generalize Plain.decimal l = r at *
  generalize Lib.itoa v = s at *
  obtain ⟨r1, r2⟩ := r
  unfold decV at HD HRD
  go_enter Tryd.func3, Tryd.ntmps3
  go_wp2_with (first
    | (go_at_call 15; first
        | ((with_reducible refine (Show_any (-90) (by omega) (by omega) w HT.out).mono ?_); rintro e w1 ⟨rfl, hb1⟩; rw [H90.out])
        | ((with_reducible refine (HS.out _ (by exact HT.out.below (Below.seq hb1 hb2))).mono ?_); rintro e w3 ⟨rfl, hb3⟩))
    | (go_at_call 16; (with_reducible refine (HD.out _ (by exact HE.out.below hb1)).mono ?_); rintro e w2 ⟨rfl, hb2⟩)
    | (go_at_call 17; (with_reducible refine (HRD.out _).mono ?_); rintro e w2b ⟨rfl, hw⟩; obtain rfl := hw.symm)
    | (go_at_call 18; (with_reducible refine (HRS.out _).mono ?_); rintro e w4 ⟨rfl, hb4⟩))
  go_ret
  exact ⟨ret_bool rfl, Below.seq (Below.seq (Below.seq hb1 hb2) hb3) hb4⟩
theorem decimal_bounds (l : List UInt8) : 0 ≤ (Plain.decimal l).1 ∧ (Plain.decimal l).1 ≤ 9223372036854775807 := by
  unfold Plain.decimal
  split
  · exact ⟨by decide, by decide⟩
  · split
    · constructor <;> simp only <;> omega
    · exact ⟨by decide, by decide⟩
theorem itoa_len (v : Int) (h0 : -9223372036854775808 ≤ v) (h1 : v ≤ 9223372036854775807) : (Lib.itoa v).length ≤ 21 := by
  unfold Lib.itoa
  split
  · have := decDigits_len 19 v.natAbs (by omega)
    rw [List.length_cons]; omega
  · have := decDigits_len 19 v.toNat (by omega)
    omega
set_option maxRecDepth 100000 in
set_option maxHeartbeats 1600000 in
theorem NumeralShown_walk (v : Int) (l : List UInt8) (w : World) (ev : Value) (ht : Pow10 w) (hE : ErrIs w ev) (h0 : -9223372036854775808 ≤ v) (h1 : v < 9223372036854775808) (hl : l.length ≤ 140737488351232) :
    Calls Tryd.prog 4 #[.int .i64 v, .string ⟨l.toArray⟩] w fun e w' => e = .returned (.bool true) ∧ Below w.heap.size w w' := by
  have e907 : Lib.itoa 907 = [57, 48, 55] := by decide +kernel
  have HT := Lib.hid ht; have HE := Lib.hid hE; have H907 := Lib.hid e907; clear ht hE e907
  have HD : Hid (∀ w, ErrIs w ev → Calls Tryd.prog 16 #[.string ⟨l.toArray⟩] w fun e w' => e = .returned (decV (Plain.decimal l)) ∧ Below w.heap.size w w') := fun w h => Decimal_any l w ev hl h
  have hlen := itoa_len v h0 (by omega)
  have HDS : Hid (∀ w, ErrIs w ev → Calls Tryd.prog 16 #[.string ⟨(Lib.itoa v).toArray⟩] w fun e w' => e = .returned (decV (Plain.decimal (Lib.itoa v))) ∧ Below w.heap.size w w') := fun w h => Decimal_any (Lib.itoa v) w ev (by omega) h
  have HS : Hid (∀ w, Pow10 w → Calls Tryd.prog 15 #[.int .i64 v] w fun e w' => e = .returned (.string ⟨(Lib.itoa v).toArray⟩) ∧ Below w.heap.size w w') := fun w h => Show_any v h0 (by omega) w h
  have hvv : 0 ≤ v → Plain.decimal (Lib.itoa v) = (v, 0) := fun hv => by
    obtain ⟨n, rfl⟩ : ∃ n : Nat, v = n := ⟨v.toNat, by omega⟩
    exact decimal_itoa n (by omega)
  have hb := decimal_bounds l
  have hgood : ∀ n, Plain.decimal l = (n, 0) → Lib.itoa n = l := fun n h => itoa_decimal l n h
  generalize Plain.decimal l = r at *
  obtain ⟨r1, r2⟩ := r
  have HSN : Hid (∀ w, Pow10 w → Calls Tryd.prog 15 #[.int .i64 r1] w fun e w' => e = .returned (.string ⟨(Lib.itoa r1).toArray⟩) ∧ Below w.heap.size w w') := fun w h => Show_any r1 (by have := hb.1; omega) (by have := hb.2; omega) w h
  have hr2 : r2 = 0 → Lib.itoa r1 = l := fun h => hgood r1 (by rw [h])
  clear hgood hlen hb
  generalize hsn : Lib.itoa r1 = sn at *
  have HSNE := Lib.hid hsn; clear hsn
  unfold decV at HD HDS
  by_cases hv : 0 ≤ v
  · have hvv' := hvv hv
    rw [hvv'] at HDS
    clear hvv hvv'
    generalize Lib.itoa v = s at *
    by_cases hr : r2 = 0
    · have hsl := hr2 hr
      subst hr
      clear hr2
      have HSL := Lib.hid hsl; clear hsl
      go_enter Tryd.func4, Tryd.ntmps4
      go_wp2_with (first
        | (go_at_call 15; first
            | ((with_reducible refine (Show_any 907 (by omega) (by omega) w HT.out).mono ?_); rintro e w1 ⟨rfl, hb1⟩; rw [H907.out])
            | ((with_reducible refine (HS.out _ (by exact HT.out.below hb1)).mono ?_); rintro e w2 ⟨rfl, hb2⟩)
            | ((with_reducible refine (HSN.out _ (by exact HT.out.below (Below.seq (Below.seq (Below.seq hb1 hb2) hb3) hb4))).mono ?_); rintro e w5 ⟨rfl, hb5⟩; rw [HSL.out]))
        | (go_at_call 16; first
            | ((with_reducible refine (HDS.out _ (by exact HE.out.below (Below.seq hb1 hb2))).mono ?_); rintro e w3 ⟨rfl, hb3⟩)
            | ((with_reducible refine (HD.out _ (by exact HE.out.below (Below.seq (Below.seq hb1 hb2) hb3))).mono ?_); rintro e w4 ⟨rfl, hb4⟩)))
      go_ret
      exact ⟨ret_bool (by simp), Below.seq (Below.seq (Below.seq (Below.seq hb1 hb2) hb3) hb4) hb5⟩
    · have hrb : (r2 == 0) = false := by simpa using hr
      have HSL := HSNE
      clear hr2
      go_enter Tryd.func4, Tryd.ntmps4
      go_wp2_with (first
        | (go_at_call 15; first
            | ((with_reducible refine (Show_any 907 (by omega) (by omega) w HT.out).mono ?_); rintro e w1 ⟨rfl, hb1⟩; rw [H907.out])
            | ((with_reducible refine (HS.out _ (by exact HT.out.below hb1)).mono ?_); rintro e w2 ⟨rfl, hb2⟩)
            | ((with_reducible refine (HSN.out _ (by exact HT.out.below (Below.seq (Below.seq (Below.seq hb1 hb2) hb3) hb4))).mono ?_); rintro e w5 ⟨rfl, hb5⟩; rw [HSL.out]))
        | (go_at_call 16; first
            | ((with_reducible refine (HDS.out _ (by exact HE.out.below (Below.seq hb1 hb2))).mono ?_); rintro e w3 ⟨rfl, hb3⟩)
            | ((with_reducible refine (HD.out _ (by exact HE.out.below (Below.seq (Below.seq hb1 hb2) hb3))).mono ?_); rintro e w4 ⟨rfl, hb4⟩)))
      go_ret
      exact ⟨ret_bool (by simp), Below.seq (Below.seq (Below.seq hb1 hb2) hb3) hb4⟩
  · clear hvv
    generalize Lib.itoa v = s at *
    by_cases hr : r2 = 0
    · have hsl := hr2 hr
      subst hr
      clear hr2
      have HSL := Lib.hid hsl; clear hsl
      go_enter Tryd.func4, Tryd.ntmps4
      go_wp2_with (first
        | (go_at_call 15; first
            | ((with_reducible refine (Show_any 907 (by omega) (by omega) w HT.out).mono ?_); rintro e w1 ⟨rfl, hb1⟩; rw [H907.out])
            | ((with_reducible refine (HS.out _ (by exact HT.out.below hb1)).mono ?_); rintro e w2 ⟨rfl, hb2⟩)
            | ((with_reducible refine (HSN.out _ (by exact HT.out.below (Below.seq (hb1) hb4))).mono ?_); rintro e w5 ⟨rfl, hb5⟩; rw [HSL.out]))
        | (go_at_call 16; first
            | ((with_reducible refine (HDS.out _ (by exact HE.out.below (Below.seq hb1 hb2))).mono ?_); rintro e w3 ⟨rfl, hb3⟩)
            | ((with_reducible refine (HD.out _ (by exact HE.out.below (hb1))).mono ?_); rintro e w4 ⟨rfl, hb4⟩)))
      go_ret
      exact ⟨ret_bool (by simp), Below.seq (Below.seq (hb1) hb4) hb5⟩
    · have hrb : (r2 == 0) = false := by simpa using hr
      have HSL := HSNE
      clear hr2
      go_enter Tryd.func4, Tryd.ntmps4
      go_wp2_with (first
        | (go_at_call 15; first
            | ((with_reducible refine (Show_any 907 (by omega) (by omega) w HT.out).mono ?_); rintro e w1 ⟨rfl, hb1⟩; rw [H907.out])
            | ((with_reducible refine (HS.out _ (by exact HT.out.below hb1)).mono ?_); rintro e w2 ⟨rfl, hb2⟩)
            | ((with_reducible refine (HSN.out _ (by exact HT.out.below (Below.seq (hb1) hb4))).mono ?_); rintro e w5 ⟨rfl, hb5⟩; rw [HSL.out]))
        | (go_at_call 16; first
            | ((with_reducible refine (HDS.out _ (by exact HE.out.below (Below.seq hb1 hb2))).mono ?_); rintro e w3 ⟨rfl, hb3⟩)
            | ((with_reducible refine (HD.out _ (by exact HE.out.below (hb1))).mono ?_); rintro e w4 ⟨rfl, hb4⟩)))
      go_ret
      exact ⟨ret_bool (by simp), Below.seq (hb1) hb4⟩
end Go.Proofs.YtccochopiaojnaaDoor
