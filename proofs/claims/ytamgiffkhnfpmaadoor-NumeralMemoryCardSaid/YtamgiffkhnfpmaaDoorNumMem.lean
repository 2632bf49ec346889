/-
  NumMem: the law NumeralMemory, walked.
-/
import Derived.Test.YtamgiffkhnfpmaaDoorPutBoth
import Derived.Test.YtamgiffkhnfpmaaDoorApWalk
namespace Go.Proofs.YtamgiffkhnfpmaaDoor
set_option linter.unusedVariables false
set_option linter.unusedSimpArgs false
open Go.ChangeShapes Go.WideShapes Go.ChangeAt Go.RowKit
theorem Free.lt {w : World} {B : Nat} {a : Option Addr} {n c : Nat} (h : Free w B a n c) {b : Nat} (hb : blk? a = some b) : B ≤ b ∧ b < w.heap.size := by
  obtain ⟨_, _, h3⟩ := h
  rcases h3 with ⟨h3, _⟩ | ⟨g, h3, h4, h5, _⟩
  · rw [h3] at hb; cases hb
  · rw [h3] at hb
    have : g = b := Option.some.inj hb
    omega
/-- slices whose blocks were made one behind the other -/
theorem dist_rising (aL : Option Addr) (nL : Nat) (S : List Sl) (t : Nat → Nat) (ht : ∀ i, i < nL → t i ≤ t (i + 1)) (hb : ∀ i b, i < nL → blk? (slAt S i).1 = some b → t i ≤ b ∧ b < t (i + 1)) (ho : ∀ x, aL = some x → t nL ≤ x.block) : Dist aL nL S := by
  have mono : ∀ j, j ≤ nL → ∀ i, i ≤ j → t i ≤ t j := by
    intro j
    induction j with
    | zero => intro _ i hi; obtain rfl : i = 0 := by omega
              exact Nat.le_refl _
    | succ j ih =>
      intro hj i hi
      by_cases e : i = j + 1
      · subst e; exact Nat.le_refl _
      · exact Nat.le_trans (ih (by omega) i (by omega)) (ht j (by omega))
  refine ⟨fun i j b hi hj hne h1 h2 => ?_, fun i b x hi h1 hx e => ?_⟩
  · have a1 := hb i b hi h1
    have a2 := hb j b hj h2
    by_cases h : i < j
    · have := mono j (by omega) (i + 1) (by omega); omega
    · have := mono i (by omega) (j + 1) (by omega); omega
  · have a1 := hb i b hi h1
    have := mono nL (Nat.le_refl _) (i + 1) (by omega)
    have := ho x hx
    omega
theorem putOctal_len (v n : Int) : (Plain.putOctal v n).1.length ≤ 64 := by
  unfold Plain.putOctal
  by_cases h : n < 2 ∨ 64 < n
  · rw [if_pos h]; simp
  · rw [if_neg h]
    by_cases h2 : v < 0
    · rw [if_pos h2]; simp
    · rw [if_neg h2]
      split
      · simp only [List.length_append]; unfold octRow; rw [placeRow_len]; simp only [List.length_singleton]; omega
      · simp
theorem put256_len (v n : Int) : (Plain.put256 v n).1.length ≤ 64 := by
  unfold Plain.put256
  by_cases h : n < 2 ∨ 64 < n
  · rw [if_pos h]; simp
  · rw [if_neg h]
    split
    · simp
    · simp only; unfold topRow; rw [List.length_set, bin256_len]; omega
theorem put_len64 (v n : Int) : (Plain.put v n).1.length ≤ 64 := by
  unfold Plain.put
  split
  · exact putOctal_len v n
  · exact put256_len v n
set_option maxRecDepth 100000 in
set_option maxHeartbeats 3200000 in
theorem NumeralMemory_walk (v n : Int) (w : World) (ev : Value) (hE : ErrIs w ev) (hT : Bru w) (v0 : -9223372036854775808 ≤ v) (v1 : v < 9223372036854775808) (n0 : -9223372036854775808 ≤ n) (n1 : n < 9223372036854775808) :
    Calls Tryd.prog 3 #[.int .i64 v, .int .i64 n] w fun e w' => e = .returned (.bool true) ∧ Below w.heap.size w w' := by
  have H1 := Lib.hid (fun w h => PutOctal_free v n w h v0 (by omega) n0 (by omega))
  have H2 := Lib.hid (fun w => Put256_free v n w v0 (by omega) n0 (by omega))
  have H3 := Lib.hid (fun w h => Put_free v n w h v0 (by omega) n0 (by omega))
  have H4 := Lib.hid (fun w => RefPutOctal_any v n w v0 (by omega) n0 (by omega))
  have H5 := Lib.hid (fun w => RefPut256_any v n w v0 (by omega) n0 (by omega))
  have H6 := Lib.hid (fun w => RefPut_any v n w v0 (by omega) n0 (by omega))
  have hl1 := putOctal_len v n
  have hl2 := put256_len v n
  have hl3 := put_len64 v n
  have HE := Lib.hid hE; have HT := Lib.hid hT; clear hE hT
  generalize Plain.putOctal v n = p at *
  generalize Plain.put256 v n = q at *
  generalize Plain.put v n = r at *
  obtain ⟨p1, p2⟩ := p
  obtain ⟨q1, q2⟩ := q
  obtain ⟨r1, r2⟩ := r
  simp only at hl1 hl2 hl3
  go_enter Tryd.func3, Tryd.ntmps3
  go_wp2_with (go_at_call 7; refine (Alive_any w ev HE.out).mono ?_; rintro e w1 ⟨rfl, hb1⟩; have HB1 := Lib.hid hb1; clear hb1)
  refine (H1.out w1 (by exact HT.out.below HB1.out)).mono ?_; rintro e w2 ⟨a2, m2, c2, rfl, hs2, hb2, hf2⟩; have HS2 := Lib.hid hs2; have HF2 := Lib.hid hf2; have HB12 := Lib.hid hb2; have HB2 := Lib.hid (Below.seq HB1.out hb2); clear hs2 hb2 hf2
  go_wp2_with fail
  refine (H2.out w2).mono ?_; rintro e w3 ⟨a3, m3, c3, rfl, hs3, hb3, hf3⟩; have HS3 := Lib.hid hs3; have HF3 := Lib.hid hf3; have HB23 := Lib.hid hb3; have HB3 := Lib.hid (Below.seq HB2.out hb3); clear hs3 hb3 hf3
  go_wp2_with fail
  refine (H3.out w3 (by exact HT.out.below HB3.out)).mono ?_; rintro e w4 ⟨a4, m4, c4, rfl, hs4, hb4, hf4⟩; have HS4 := Lib.hid hs4; have HF4 := Lib.hid hf4; have HB34 := Lib.hid hb4; have HB4 := Lib.hid (Below.seq HB3.out hb4); clear hs4 hb4 hf4
  go_wp2_with fail
  refine (H3.out w4 (by exact HT.out.below HB4.out)).mono ?_; rintro e w5 ⟨a5, m5, c5, rfl, hs5, hb5, hf5⟩; have HS5 := Lib.hid hs5; have HF5 := Lib.hid hf5; have HB45 := Lib.hid hb5; have HB5 := Lib.hid (Below.seq HB4.out hb5); clear hs5 hb5 hf5
  go_wp2_with fail
  refine (H4.out w5).mono ?_; rintro e w6 ⟨a6, m6, c6, rfl, hs6, hb6⟩; have HS6 := Lib.hid hs6; have HB56 := Lib.hid hb6; have HB6 := Lib.hid (Below.seq HB5.out hb6); clear hs6 hb6
  go_wp2_with fail
  refine (H5.out w6).mono ?_; rintro e w7 ⟨a7, m7, c7, rfl, hs7, hb7⟩; have HS7 := Lib.hid hs7; have HB67 := Lib.hid hb7; have HB7 := Lib.hid (Below.seq HB6.out hb7); clear hs7 hb7
  go_wp2_with fail
  refine (H6.out w7).mono ?_; rintro e w8 ⟨a8, m8, c8, rfl, hs8, hb8⟩; have HS8 := Lib.hid hs8; have HB78 := Lib.hid hb8; have HB8 := Lib.hid (Below.seq HB7.out hb8); clear hs8 hb8
  have HX68 := Lib.hid (Below.seq HB67.out HB78.out)
  have HX58 := Lib.hid (Below.seq HB56.out HX68.out)
  have HX48 := Lib.hid (Below.seq HB45.out HX58.out)
  have HX38 := Lib.hid (Below.seq HB34.out HX48.out)
  have HX28 := Lib.hid (Below.seq HB23.out HX38.out)
  go_wp2_with fail
  refine (SameBytes_any a2 a6 m2 m6 c2 c6 _ _ w8 (by exact Below.bs HX28.out HS2.out) (by exact Below.bs HX68.out HS6.out)).mono ?_; rintro e w9 ⟨rfl, hb9⟩; have HB89 := Lib.hid hb9; clear hb9
  go_wp2_with fail
  refine (SameBytes_any a3 a7 m3 m7 c3 c7 _ _ w9 (by exact Below.bs HB89.out (Below.bs HX38.out HS3.out)) (by exact Below.bs HB89.out (Below.bs HB78.out HS7.out))).mono ?_; rintro e w10 ⟨rfl, hb10⟩; have HB810 := Lib.hid (Below.seq HB89.out hb10); clear hb10
  go_wp2_with fail
  refine (SameBytes_any a4 a8 m4 m8 c4 c8 _ _ w10 (by exact Below.bs HB810.out (Below.bs HX48.out HS4.out)) (by exact Below.bs HB810.out HS8.out)).mono ?_; rintro e w11 ⟨rfl, hb11⟩; have HB811 := Lib.hid (Below.seq HB810.out hb11); clear hb11
  go_wp2_with fail
  refine (SameBytes_any a5 a8 m5 m8 c5 c8 _ _ w11 (by exact Below.bs HB811.out (Below.bs HX58.out HS5.out)) (by exact Below.bs HB811.out HS8.out)).mono ?_; rintro e w12 ⟨rfl, hb12⟩; have HB812 := Lib.hid (Below.seq HB811.out hb12); clear hb12
  have f2 := HF2.out.below (Below.seq HX28.out HB812.out)
  have f3 := HF3.out.below (Below.seq HX38.out HB812.out)
  have f4 := HF4.out.below (Below.seq HX48.out HB812.out)
  have f5 := HF5.out.below (Below.seq HX58.out HB812.out)
  have s1 := HB1.out.size; have s2 := HB12.out.size; have s3 := HB23.out.size; have s4 := HB34.out.size; have s5 := HB45.out.size; have s6 := (Below.seq HX58.out HB812.out).size
  have HB12' := Lib.hid (Below.seq HB8.out HB812.out)
  have hsz12 := HB12'.out.size
  have hwe : Below w.heap.size w (w12.alloc (.cells #[.slice a2 m2 c2, .slice a3 m3 c3, .slice a4 m4 c4, .slice a5 m5 c5] 23)) := HB12'.out.alloc hsz12 _
  have hI : ApI (w12.alloc (.cells #[.slice a2 m2 c2, .slice a3 m3 c3, .slice a4 m4 c4, .slice a5 m5 c5] 23)) w.heap.size (some ⟨w12.heap.size, 0, none⟩) 4 4 [(a2, m2, c2), (a3, m3, c3), (a4, m4, c4), (a5, m5, c5)] (w12.alloc (.cells #[.slice a2 m2 c2, .slice a3 m3 c3, .slice a4 m4 c4, .slice a5 m5 c5] 23)) := by
    refine ⟨Below.refl _ _, isSl_new w12 23 1 4 _ rfl (by unfold maxLen; omega), fun i hi => ?_⟩
    have k := (Below.refl w12.heap.size w12).alloc (Nat.le_refl _) (.cells #[.slice a2 m2 c2, .slice a3 m3 c3, .slice a4 m4 c4, .slice a5 m5 c5] 23)
    rcases (by omega : i = 0 ∨ i = 1 ∨ i = 2 ∨ i = 3) with rfl | rfl | rfl | rfl
    · exact (f2.base (by omega)).below k
    · exact (f3.base (by omega)).below k
    · exact (f4.base (by omega)).below k
    · exact (f5.base (by omega)).below k
  have hD : Dist (some ⟨w12.heap.size, 0, none⟩) 4 [(a2, m2, c2), (a3, m3, c3), (a4, m4, c4), (a5, m5, c5)] := by
    refine dist_rising _ _ _ (fun i => match i with | 0 => w1.heap.size | 1 => w2.heap.size | 2 => w3.heap.size | 3 => w4.heap.size | _ => w12.heap.size) (fun i hi => ?_) (fun i b hi hb => ?_) (fun x hx => ?_)
    · rcases (by omega : i = 0 ∨ i = 1 ∨ i = 2 ∨ i = 3) with rfl | rfl | rfl | rfl <;> simp only <;> omega
    · rcases (by omega : i = 0 ∨ i = 1 ∨ i = 2 ∨ i = 3) with rfl | rfl | rfl | rfl
      · exact HF2.out.lt hb
      · exact HF3.out.lt hb
      · exact HF4.out.lt hb
      · have := HF5.out.lt hb
        simp only
        omega
    · simp only [Option.some.injEq] at hx
      subst hx
      exact Nat.le_refl _
  have n2 := HS2.out.len; have n3 := HS3.out.len; have n4 := HS4.out.len; have n5 := HS5.out.len
  have hln : ∀ i, i < 4 → (slAt [(a2, m2, c2), (a3, m3, c3), (a4, m4, c4), (a5, m5, c5)] i).2.1 ≤ 70368744177664 := by
    intro i hi
    rcases (by omega : i = 0 ∨ i = 1 ∨ i = 2 ∨ i = 3) with rfl | rfl | rfl | rfl <;> simp [slAt] <;> omega
  have HAP := Lib.hid (Apart_any _ 4 4 _ _ w.heap.size hwe.size hI hD (by decide) hln)
  have HWE := Lib.hid hwe
  clear hI hD hln hwe f2 f3 f4 f5 n2 n3 n4 n5 hl1 hl2 hl3
  go_wp2_with (go_at_call 15; (refine HAP.out.mono ?_); rintro e w13 ⟨rfl, hb13⟩; have HB13 := Lib.hid (HWE.out.trans hb13); clear hb13)
  go_ret
  exact ⟨ret_bool (by simp), HB13.out⟩
end Go.Proofs.YtamgiffkhnfpmaaDoor
