/-
  PutBoth: numeral.Put and the reference's; the laws NumeralPuts and NumeralRound, walked.
-/
import Derived.Test.YtamgiffkhnfpmaaDoorPut256
import Derived.Test.YtamgiffkhnfpmaaDoorLawNum
namespace Go.Proofs.YtamgiffkhnfpmaaDoor
open Go.ChangeShapes Go.WideShapes Go.ChangeAt Go.RowKit
set_option maxHeartbeats 800000 in
theorem Put_free (v n : Int) (w : World) (hT : Bru w) (v0 : -9223372036854775808 ≤ v) (v1 : v ≤ 9223372036854775807) (n0 : -9223372036854775808 ≤ n) (n1 : n ≤ 9223372036854775807) :
    Calls Tryd.prog 10 #[.int .i64 v, .int .i64 n] w (PutResF w (Plain.put v n)) := by
  have H1 := Lib.hid (PutOctal_free v n w hT v0 v1 n0 n1)
  have H2 := Lib.hid (fun w => Put256_free v n w v0 v1 n0 n1)
  unfold Plain.put
  generalize Plain.putOctal v n = p at *
  generalize Plain.put256 v n = q at *
  obtain ⟨p1, p2⟩ := p
  obtain ⟨q1, q2⟩ := q
  by_cases h : p2 = 0
  · subst h
    rw [if_pos rfl]
    clear hT
    go_enter Tryd.func10, Tryd.ntmps10
    go_wp2_with (go_at_call 8; (with_reducible refine (H1.out).mono ?_); rintro e w1 ⟨a1, m1, c1, rfl, hbs, hb, hf⟩)
    go_ret2
    exact ⟨a1, m1, c1, rfl, hbs, hb, hf⟩
  · rw [if_neg h]
    have hne : (p2 == 0) = false := by rw [beq_eq_false_iff_ne]; exact h
    clear hT h
    go_enter Tryd.func10, Tryd.ntmps10
    go_wp2_with (first
      | (go_at_call 8; (with_reducible refine (H1.out).mono ?_); rintro e w1 ⟨a1, m1, c1, rfl, hbs, hb, hf⟩)
      | (go_at_call 9; (with_reducible refine (H2.out _).mono ?_); rintro e w2 ⟨a2, m2, c2, rfl, hbs2, hb2, hf2⟩))
    go_ret2
    exact ⟨a2, m2, c2, rfl, hbs2, Below.seq hb hb2, hf2.base hb.size⟩
theorem Put_any (v n : Int) (w : World) (hT : Bru w) (v0 : -9223372036854775808 ≤ v) (v1 : v ≤ 9223372036854775807) (n0 : -9223372036854775808 ≤ n) (n1 : n ≤ 9223372036854775807) :
    Calls Tryd.prog 10 #[.int .i64 v, .int .i64 n] w (PutRes w (Plain.put v n)) := (Put_free v n w hT v0 v1 n0 n1).mono fun _ _ h => h.res
set_option maxHeartbeats 800000 in
theorem RefPut_any (v n : Int) (w : World) (v0 : -9223372036854775808 ≤ v) (v1 : v ≤ 9223372036854775807) (n0 : -9223372036854775808 ≤ n) (n1 : n ≤ 9223372036854775807) :
    Calls Tryd.prog 13 #[.int .i64 v, .int .i64 n] w (PutRes w (Plain.put v n)) := by
  have H1 := Lib.hid (RefPutOctal_any v n w v0 v1 n0 n1)
  have H2 := Lib.hid (fun w => RefPut256_any v n w v0 v1 n0 n1)
  unfold Plain.put
  generalize Plain.putOctal v n = p at *
  generalize Plain.put256 v n = q at *
  obtain ⟨p1, p2⟩ := p
  obtain ⟨q1, q2⟩ := q
  by_cases h : p2 = 0
  · subst h
    rw [if_pos rfl]
    go_enter Tryd.func13, Tryd.ntmps13
    go_wp2_with (go_at_call 11; (with_reducible refine (H1.out).mono ?_); rintro e w1 ⟨a1, m1, c1, rfl, hbs, hb⟩)
    go_ret2
    exact ⟨a1, m1, c1, rfl, hbs, hb⟩
  · rw [if_neg h]
    have hne : (p2 == 0) = false := by rw [beq_eq_false_iff_ne]; exact h
    clear h
    go_enter Tryd.func13, Tryd.ntmps13
    go_wp2_with (first
      | (go_at_call 11; (with_reducible refine (H1.out).mono ?_); rintro e w1 ⟨a1, m1, c1, rfl, hbs, hb⟩)
      | (go_at_call 12; (with_reducible refine (H2.out _).mono ?_); rintro e w2 ⟨a2, m2, c2, rfl, hbs2, hb2⟩))
    go_ret2
    exact ⟨a2, m2, c2, rfl, hbs2, Below.seq hb hb2⟩
theorem put256_code (v n : Int) (h : (Plain.put v n).2 ≠ 0) : (Plain.put v n).1.length = 0 := by rw [(put_code v n h).1]; rfl
end Go.Proofs.YtamgiffkhnfpmaaDoor
