/-
  PutBoth: numeral.Put and the reference's; the laws NumeralPuts and NumeralRound, walked.
-/
import Derived.Test.YtccochopiaojnaaDoorPut256
import Derived.Test.YtccochopiaojnaaDoorLawNum
namespace Go.Proofs.YtccochopiaojnaaDoor
open Go.ChangeShapes Go.WideShapes Go.ChangeAt Go.RowKit
set_option maxHeartbeats 800000 in
theorem Put_any (v n : Int) (w : World) (hT : Bru w) (v0 : -9223372036854775808 ≤ v) (v1 : v ≤ 9223372036854775807) (n0 : -9223372036854775808 ≤ n) (n1 : n ≤ 9223372036854775807) :
    Calls Tryd.prog 33 #[.int .i64 v, .int .i64 n] w (PutRes w (Plain.put v n)) := by
  have H1 := Lib.hid (PutOctal_any v n w hT v0 v1 n0 n1)
  have H2 := Lib.hid (fun w => Put256_any v n w v0 v1 n0 n1)
  unfold Plain.put
  generalize Plain.putOctal v n = p at *
  generalize Plain.put256 v n = q at *
  obtain ⟨p1, p2⟩ := p
  obtain ⟨q1, q2⟩ := q
  by_cases h : p2 = 0
  · subst h
    rw [if_pos rfl]
    clear hT
    go_enter Tryd.func33, Tryd.ntmps33
    go_wp2_with (go_at_call 29; (with_reducible refine (H1.out).mono ?_); rintro e w1 ⟨a1, m1, c1, rfl, hbs, hb⟩)
    go_ret2
    exact ⟨a1, m1, c1, rfl, hbs, hb⟩
  · rw [if_neg h]
    have hne : (p2 == 0) = false := by rw [beq_eq_false_iff_ne]; exact h
    clear hT h
    go_enter Tryd.func33, Tryd.ntmps33
    go_wp2_with (first
      | (go_at_call 29; (with_reducible refine (H1.out).mono ?_); rintro e w1 ⟨a1, m1, c1, rfl, hbs, hb⟩)
      | (go_at_call 31; (with_reducible refine (H2.out _).mono ?_); rintro e w2 ⟨a2, m2, c2, rfl, hbs2, hb2⟩))
    go_ret2
    exact ⟨a2, m2, c2, rfl, hbs2, Below.seq hb hb2⟩
set_option maxHeartbeats 800000 in
theorem RefPut_any (v n : Int) (w : World) (v0 : -9223372036854775808 ≤ v) (v1 : v ≤ 9223372036854775807) (n0 : -9223372036854775808 ≤ n) (n1 : n ≤ 9223372036854775807) :
    Calls Tryd.prog 34 #[.int .i64 v, .int .i64 n] w (PutRes w (Plain.put v n)) := by
  have H1 := Lib.hid (RefPutOctal_any v n w v0 v1 n0 n1)
  have H2 := Lib.hid (fun w => RefPut256_any v n w v0 v1 n0 n1)
  unfold Plain.put
  generalize Plain.putOctal v n = p at *
  generalize Plain.put256 v n = q at *
  obtain ⟨p1, p2⟩ := p
  obtain ⟨q1, q2⟩ := q
  by_cases h : p2 = 0
  · subst h
    rw [if_pos rfl]
    go_enter Tryd.func34, Tryd.ntmps34
    go_wp2_with (go_at_call 30; (with_reducible refine (H1.out).mono ?_); rintro e w1 ⟨a1, m1, c1, rfl, hbs, hb⟩)
    go_ret2
    exact ⟨a1, m1, c1, rfl, hbs, hb⟩
  · rw [if_neg h]
    have hne : (p2 == 0) = false := by rw [beq_eq_false_iff_ne]; exact h
    clear h
    go_enter Tryd.func34, Tryd.ntmps34
    go_wp2_with (first
      | (go_at_call 30; (with_reducible refine (H1.out).mono ?_); rintro e w1 ⟨a1, m1, c1, rfl, hbs, hb⟩)
      | (go_at_call 32; (with_reducible refine (H2.out _).mono ?_); rintro e w2 ⟨a2, m2, c2, rfl, hbs2, hb2⟩))
    go_ret2
    exact ⟨a2, m2, c2, rfl, hbs2, Below.seq hb hb2⟩
theorem put256_code (v n : Int) (h : (Plain.put v n).2 ≠ 0) : (Plain.put v n).1.length = 0 := by rw [(put_code v n h).1]; rfl
set_option maxRecDepth 100000 in
set_option maxHeartbeats 1600000 in
theorem NumeralPuts_walk (v n : Int) (w : World) (ev : Value) (hE : ErrIs w ev) (hT : Bru w) (v0 : -9223372036854775808 ≤ v) (v1 : v < 9223372036854775808) (n0 : -9223372036854775808 ≤ n) (n1 : n < 9223372036854775808) :
    Calls Tryd.prog 9 #[.int .i64 v, .int .i64 n] w fun e w' => e = .returned (.bool true) ∧ Below w.heap.size w w' := by
  have H1 := Lib.hid (fun w h => PutOctal_any v n w h v0 (by omega) n0 (by omega))
  have H2 := Lib.hid (fun w => RefPutOctal_any v n w v0 (by omega) n0 (by omega))
  have H3 := Lib.hid (fun w => Put256_any v n w v0 (by omega) n0 (by omega))
  have H4 := Lib.hid (fun w => RefPut256_any v n w v0 (by omega) n0 (by omega))
  have H5 := Lib.hid (fun w h => Put_any v n w h v0 (by omega) n0 (by omega))
  have H6 := Lib.hid (fun w => RefPut_any v n w v0 (by omega) n0 (by omega))
  have HE := Lib.hid hE; have HT := Lib.hid hT; clear hE hT
  generalize Plain.putOctal v n = p at *
  generalize Plain.put256 v n = q at *
  generalize Plain.put v n = r at *
  obtain ⟨p1, p2⟩ := p
  obtain ⟨q1, q2⟩ := q
  obtain ⟨r1, r2⟩ := r
  go_enter Tryd.func9, Tryd.ntmps9
  go_wp2_with (first
    | (go_at_call 20; refine (Alive_any w ev HE.out).mono ?_; rintro e w1 ⟨rfl, hb1⟩; have HB1 := Lib.hid hb1; clear hb1)
    | (go_at_call 29; (refine (H1.out w1 (by exact HT.out.below HB1.out)).mono ?_); rintro e w2 ⟨a2, m2, c2, rfl, hs2, hb2⟩; have HS2 := Lib.hid hs2; have HB2 := Lib.hid (Below.seq HB1.out hb2); clear hs2 hb2)
    | (go_at_call 30; (refine (H2.out w2).mono ?_); rintro e w3 ⟨a3, m3, c3, rfl, hs3, hb3⟩; have HS3 := Lib.hid hs3; have HS2b := Lib.hid (Below.bs hb3 HS2.out); have HB3 := Lib.hid (Below.seq HB2.out hb3); clear hs3 hb3)
    | (go_at_call 23; (with_reducible refine (SameBytes_any a2 a3 m2 m3 c2 c3 _ _ w3 HS2b.out HS3.out).mono ?_); rintro e w4 ⟨rfl, hb4⟩; have HB4 := Lib.hid (Below.seq HB3.out hb4); clear hb4)
    | (go_at_call 31; (refine (H3.out w4).mono ?_); rintro e w5 ⟨a5, m5, c5, rfl, hs5, hb5⟩; have HS5 := Lib.hid hs5; have HB5 := Lib.hid (Below.seq HB4.out hb5); clear hs5 hb5)
    | (go_at_call 32; (refine (H4.out w5).mono ?_); rintro e w6 ⟨a6, m6, c6, rfl, hs6, hb6⟩; have HS6 := Lib.hid hs6; have HS5b := Lib.hid (Below.bs hb6 HS5.out); have HB6 := Lib.hid (Below.seq HB5.out hb6); clear hs6 hb6)
    | (go_at_call 23; (with_reducible refine (SameBytes_any a5 a6 m5 m6 c5 c6 _ _ w6 HS5b.out HS6.out).mono ?_); rintro e w7 ⟨rfl, hb7⟩; have HB7 := Lib.hid (Below.seq HB6.out hb7); clear hb7)
    | (go_at_call 33; (refine (H5.out w7 (by exact HT.out.below HB7.out)).mono ?_); rintro e w8 ⟨a8, m8, c8, rfl, hs8, hb8⟩; have HS8 := Lib.hid hs8; have HB8 := Lib.hid (Below.seq HB7.out hb8); clear hs8 hb8)
    | (go_at_call 34; (refine (H6.out w8).mono ?_); rintro e w9 ⟨a9, m9, c9, rfl, hs9, hb9⟩; have HS9 := Lib.hid hs9; have HS8b := Lib.hid (Below.bs hb9 HS8.out); have HB9 := Lib.hid (Below.seq HB8.out hb9); clear hs9 hb9)
    | (go_at_call 23; (with_reducible refine (SameBytes_any a8 a9 m8 m9 c8 c9 _ _ w9 HS8b.out HS9.out).mono ?_); rintro e w10 ⟨rfl, hb10⟩; have HB10 := Lib.hid (Below.seq HB9.out hb10); clear hb10))
  go_ret
  exact ⟨ret_bool (by simp), HB10.out⟩
set_option maxRecDepth 100000 in
set_option maxHeartbeats 1600000 in
theorem NumeralRound_walk (v n : Int) (w : World) (ev : Value) (hE : ErrIs w ev) (hT : Bru w) (v0 : -9223372036854775808 ≤ v) (v1 : v < 9223372036854775808) (n0 : -9223372036854775808 ≤ n) (n1 : n < 9223372036854775808) :
    Calls Tryd.prog 11 #[.int .i64 v, .int .i64 n] w fun e w' => e = .returned (.bool true) ∧ Below w.heap.size w w' := by
  have H5 := Lib.hid (fun w h => Put_any v n w h v0 (by omega) n0 (by omega))
  have hc := put_code v n
  have hr := put_read v n ((inI64_iff v).2 ⟨v0, by omega⟩)
  have hlen64 : (Plain.put v n).1.length ≤ 64 := by
    by_cases h : (Plain.put v n).2 = 0
    · have := (hr h).2
      by_cases h64 : 64 < n
      · have : (Plain.put v n).2 = 12 := by
          have e1 : Plain.putOctal v n = ([], 12) := if_pos (Or.inr h64)
          have e2 : Plain.put256 v n = ([], 12) := if_pos (Or.inr h64)
          unfold Plain.put
          rw [e1, e2, if_neg (by decide)]
        omega
      · omega
    · rw [put256_code v n h]; omega
  have HE := Lib.hid hE; have HT := Lib.hid hT; clear hE hT
  generalize Plain.put v n = r at *
  obtain ⟨r1, r2⟩ := r
  simp only at hc hr hlen64
  by_cases h0 : r2 = 0
  · subst h0
    obtain ⟨hq, hl⟩ := hr rfl
    have HQ := Lib.hid hq; have HL := Lib.hid hl
    clear hc hr hq hl
    go_enter Tryd.func11, Tryd.ntmps11
    go_wp2_with (first
      | (go_at_call 20; refine (Alive_any w ev HE.out).mono ?_; rintro e w1 ⟨rfl, hb1⟩; have HB1 := Lib.hid hb1; clear hb1)
      | (go_at_call 33; (refine (H5.out w1 (by exact HT.out.below HB1.out)).mono ?_); rintro e w2 ⟨a2, m2, c2, rfl, hs2, hb2⟩; have HS2 := Lib.hid hs2; have HB2 := Lib.hid (Below.seq HB1.out hb2); have hm2 : m2 ≤ 64 := (by rw [← hs2.len]; exact hlen64); have hmn : ((m2 : Int) == n) = true := (by rw [beq_iff_eq, ← hs2.len]; exact HL.out); clear hs2 hb2)
      | (go_at_call 27; (refine (Number_any a2 m2 c2 r1 w2 ev (by exact HS2.out) (by omega) (by exact HE.out.below HB2.out)).mono ?_); rintro e w3 ⟨rfl, hb3⟩; rw [HQ.out]; unfold decV; have HB3 := Lib.hid (Below.seq HB2.out hb3); clear hb3))
    go_ret
    exact ⟨ret_bool (by simp), HB3.out⟩
  · have hne : (r2 != 0) = true := by rw [bne_iff_ne]; exact h0
    obtain ⟨hnil, hw⟩ := hc h0
    subst hnil
    clear hr hc h0
    have hww : n < 9 ∨ (¬ n < 9 ∧ 64 < n) := by omega
    rcases hww with hww | ⟨hww, hww2⟩
    all_goals
      go_enter Tryd.func11, Tryd.ntmps11
      go_wp2_with (first
        | (go_at_call 20; refine (Alive_any w ev HE.out).mono ?_; rintro e w1 ⟨rfl, hb1⟩; have HB1 := Lib.hid hb1; clear hb1)
        | (go_at_call 33; (refine (H5.out w1 (by exact HT.out.below HB1.out)).mono ?_); rintro e w2 ⟨a2, m2, c2, rfl, hs2, hb2⟩; have HB2 := Lib.hid (Below.seq HB1.out hb2); obtain rfl : m2 = 0 := (by have := hs2.len; simpa using this.symm); clear hs2 hb2))
      go_ret
      exact ⟨ret_bool (by simp), HB2.out⟩
end Go.Proofs.YtccochopiaojnaaDoor
