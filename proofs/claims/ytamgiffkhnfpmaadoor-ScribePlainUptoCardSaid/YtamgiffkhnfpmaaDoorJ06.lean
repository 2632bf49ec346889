/-
  J06: Put256, LawOct, LawNum, PutBoth, joined.
-/
import Derived.Test.YtamgiffkhnfpmaaDoorJ05
import Derived.Test.YtamgiffkhnfpmaaDoorJ03
import Derived.Test.YtamgiffkhnfpmaaDoorJ01
import Derived.Test.YtamgiffkhnfpmaaDoorJ02
namespace Go.Proofs.YtamgiffkhnfpmaaDoor
set_option linter.unusedVariables false
set_option linter.unusedSimpArgs false
open Go.ChangeShapes Go.WideShapes Go.ChangeAt Go.RowKit
/-- the limit of a field of fewer than nine bytes -/
theorem fits_iff (v : Int) (m : Nat) : fits256 v m ↔ -(64 * 256 ^ (m - 1)) ≤ v ∧ v < 64 * 256 ^ (m - 1) := by
  have hp : (0 : Int) < 256 ^ (m - 1) := Int.pow_pos (by decide)
  unfold fits256
  generalize (256 : Int) ^ (m - 1) = p at *
  rw [Int.le_ediv_iff_mul_le hp]
  have h2 : v / p ≤ 63 ↔ v < 64 * p := by
    rw [← Int.ediv_lt_iff_lt_mul hp]; omega
  rw [h2]
  have : -64 * p = -(64 * p) := by rw [Int.neg_mul]
  rw [this]
theorem pow_8n (m : Nat) (h : 1 ≤ m) : (2 : Int) ^ (8 * m - 2) = 64 * 256 ^ (m - 1) := by
  have e : 8 * m - 2 = 6 + 8 * (m - 1) := by omega
  rw [e, Int.pow_add, Int.pow_mul]; rfl
/-- the shift by all bits but the lowest of the top byte -/
theorem top_iff (v : Int) (m : Nat) (h : 1 ≤ m) : fits256 v m ↔ v / 2 ^ (8 * m - 2) = 0 ∨ v / 2 ^ (8 * m - 2) = -1 := by
  have hp : (0 : Int) < 256 ^ (m - 1) := Int.pow_pos (by decide)
  rw [fits_iff, pow_8n m h]
  generalize (256 : Int) ^ (m - 1) = p at *
  have hq : (0 : Int) < 64 * p := by omega
  generalize 64 * p = q at *
  constructor
  · rintro ⟨h1, h2⟩
    rcases Int.lt_or_le v 0 with h0 | h0
    · right
      have a1 : -1 ≤ v / q := by rw [Int.le_ediv_iff_mul_le hq]; omega
      have a2 : v / q < 0 := Int.ediv_neg_of_neg_of_pos h0 hq
      omega
    · left
      exact Int.ediv_eq_zero_of_lt h0 h2
  · intro h3
    have e1 := Int.mul_ediv_add_emod v q
    have e2 := Int.emod_nonneg v (show q ≠ 0 by omega)
    have e3 := Int.emod_lt_of_pos v hq
    rcases h3 with h3 | h3
    · rw [h3, Int.mul_zero] at e1; omega
    · rw [h3] at e1; omega
theorem i64_and255 (n : Int) : bits .and .i64 n 255 = n % 256 := by
  have h255 : (BitVec.ofInt 64 255).toNat = 2 ^ 8 - 1 := by decide
  have key : (BitVec.ofInt 64 n &&& BitVec.ofInt 64 255).toNat = (n % ((2 ^ 64 : Nat) : Int)).toNat % 2 ^ 8 := by
    rw [BitVec.toNat_and, BitVec.toNat_ofInt, h255, Nat.and_two_pow_sub_one_eq_mod]
  show IntKind.i64.wrap ((BitVec.ofInt 64 n &&& BitVec.ofInt 64 255).toNat : Nat) = n % 256
  rw [key, IntKind.wrap_i64]
  omega
set_option maxRecDepth 100000 in
theorem or128 (c : UInt8) : bits .or .u8 (c.toNat : Int) 128 = ((top1 c).toNat : Int) := by
  have key : ∀ x : Fin 256, (x.1 ||| 128) = (if x.1 < 128 then x.1 + 128 else x.1) := by decide
  have hx := key ⟨c.toNat, c.toNat_lt⟩
  simp only at hx
  have e1 : bits .or .u8 (c.toNat : Int) 128 = ((c.toNat ||| 128 : Nat) : Int) := u8_or_nat c.toNat 128 c.toNat_lt (by decide)
  rw [e1, hx, top1_val]
/-- a byte by its shift -/
theorem shift_byte (v : Int) (D : Nat) (v0 : -9223372036854775808 ≤ v) (v1 : v ≤ 9223372036854775807) :
    (D < 8 → v / 2 ^ (8 * D) % 256 = ((binByte v D).toNat : Int)) ∧ (8 ≤ D → v / 9223372036854775808 % 256 = ((binByte v D).toNat : Int)) := by
  rw [binByte_val]
  constructor
  · intro _
    rw [Int.pow_mul]; rfl
  · intro h
    have hp : (18446744073709551616 : Int) ≤ 256 ^ D := by
      have h1 : (256 : Nat) ^ 8 ≤ 256 ^ D := Nat.pow_le_pow_right (by decide) h
      have h2 : (((256 : Nat) ^ 8 : Nat) : Int) ≤ ((256 ^ D : Nat) : Int) := Int.ofNat_le.2 h1
      rw [Int.natCast_pow, Int.natCast_pow] at h2
      exact h2
    generalize (256 : Int) ^ D = p at *
    rcases Int.lt_or_le v 0 with h0 | h0
    · have a1 : -1 ≤ v / p := by rw [Int.le_ediv_iff_mul_le (by omega)]; omega
      have a2 : v / p < 0 := Int.ediv_neg_of_neg_of_pos h0 (by omega)
      have : v / p = -1 := by omega
      rw [this]; omega
    · have : v / p = 0 := Int.ediv_eq_zero_of_lt h0 (by omega)
      rw [this]; omega
theorem bin256_at (v : Int) (n k : Nat) (h : k < n) : (bin256 v n).getD k 0 = binByte v (n - 1 - k) := placeRow_at _ n k h
theorem put256_bad (v n : Int) (h : n < 2 ∨ 64 < n) : Plain.put256 v n = ([], 12) := if_pos h
set_option maxRecDepth 100000 in
set_option maxHeartbeats 1600000 in
/-- the loop and what follows, where the number fits -/
theorem Put256_free (v n : Int) (w : World) (v0 : -9223372036854775808 ≤ v) (v1 : v ≤ 9223372036854775807) (n0 : -9223372036854775808 ≤ n) (n1 : n ≤ 9223372036854775807) :
    Calls Tryd.prog 9 #[.int .i64 v, .int .i64 n] w (PutResF w (Plain.put256 v n)) := by
  by_cases h : n < 2 ∨ 64 < n
  · rw [put256_bad v n h]
    rcases h with h | h
    all_goals
      go_enter Tryd.func9, Tryd.ntmps9
      go_wp2
      all_goals
        go_ret2
        exact PutResF.nil _ (Below.refl _ _)
  · obtain ⟨m, rfl⟩ := Int.eq_ofNat_of_zero_le (by omega : 0 ≤ n)
    have hm2 : 2 ≤ m := by omega
    have hm64 : m ≤ 64 := by omega
    have ht := top_iff v m (by omega)
    have e : Plain.put256 v m = if (m : Int) < 9 ∧ ¬ fits256 v m then ([], 11) else (topRow (bin256 v m), 0) := by
      unfold Plain.put256; rw [if_neg h]; rfl
    generalize Plain.put256 v m = r at *
    have hsh : (m : Int) < 9 → v / 2 ^ (8 * (m : Int) - 2).toNat = v / 2 ^ (8 * m - 2) := fun _ => by
      rw [show (8 * (m : Int) - 2).toNat = 8 * m - 2 by omega]
    generalize v / 2 ^ (8 * m - 2) = T at *
    have HE := Lib.hid e; have HT := Lib.hid ht
    have hr0 : RowAt w 5 (headRow (bin256 v m) 0) (w.alloc (.cells (rowA (List.replicate m 0)) 5)) := by
      rw [headRow_zero, bin256_len]
      exact RowAt.new w _ _
    have HR0 := Lib.hid hr0
    clear e ht hr0
    generalize hz : List.replicate m (0 : UInt8) = z at HR0
    have HZ := Lib.hid hz; clear hz
    by_cases hbad : (m : Int) < 9 ∧ ¬ fits256 v m
    · have he := HE.out
      rw [if_pos hbad] at he
      subst he
      have hs := hsh hbad.1
      have t1 : (T != 0) = true := by rw [bne_iff_ne]; intro h2; exact hbad.2 (HT.out.2 (.inl h2))
      have t2 : (T != -1) = true := by rw [bne_iff_ne]; intro h2; exact hbad.2 (HT.out.2 (.inr h2))
      have h9 := hbad.1
      have h9b : (m : Int) ≤ 8 := by omega
      clear hbad hsh h
      go_enter Tryd.func9, Tryd.ntmps9
      go_wp2
      go_ret2
      exact PutResF.nil _ (Below.refl _ _)
    · have he := HE.out
      rw [if_neg hbad] at he
      subst he
      have hways : (¬ (m : Int) < 9) ∨ ((m : Int) < 9 ∧ v / 2 ^ (8 * (m : Int) - 2).toNat = T ∧ ((T != 0) = false ∨ ((T != 0) = true ∧ (T != -1) = false))) := by
        by_cases h9 : (m : Int) < 9
        · right
          refine ⟨h9, hsh h9, ?_⟩
          have hf : fits256 v m := Classical.byContradiction fun hc => hbad ⟨h9, hc⟩
          rcases HT.out.1 hf with h2 | h2
          · left; rw [h2]; rfl
          · right; rw [h2]; exact ⟨rfl, rfl⟩
        · exact .inl h9
      have hn2 : ¬ (m : Int) < 2 := by omega
      have hn64 : ¬ (64 : Int) < m := by omega
      have HS := Lib.hid (fun D => shift_byte v D v0 v1)
      clear hbad hsh h HE
      go_enter Tryd.func9, Tryd.ntmps9
      go_upto_if 17 with fail
      go_cut [4, 5] (fun s4 s5 wx => w = wx)
      case first =>
        rcases hways with h9 | ⟨h9, hs, ht | ⟨ht, ht2⟩⟩
        all_goals
          go_wp2
          go_meet
          rfl
      case rest =>
        obtain rfl := hcut
        clear hways
        go_wp2_with (at_make; (with_reducible refine wpList_make_bytes rfl _ _ _ rfl Tryd.underlying23 infoU8a m rfl rfl (by omega) ?_); rw [HZ.out])
        have HR1 := HR0
        generalize hw0 : w.alloc (.cells (rowA z) 5) = w0 at *
        clear hw0
        go_loopw [33] (fun i wr => ∃ k : Nat, k ≤ m ∧ i = .int .i64 k ∧ RowAt w 5 (headRow (bin256 v m) k) wr) (fun i _ => m - (intOf i).toNat)
        case atStart => exact ⟨0, by omega, rfl, HR1.out⟩
        case round =>
          obtain ⟨k, hk, rfl, hD⟩ := hrel
          have hlen := headRow_len (bin256 v m) k (by rw [bin256_len]; exact hk)
          rw [bin256_len] at hlen
          by_cases hlt : k < m
          · have hset := headRow_set (bin256 v m) k (by rw [bin256_len]; exact hlt)
            rw [bin256_at v m k hlt] at hset
            have hcell := hD.cell k (by rw [hlen]; exact hlt)
            have hfz := hD.froz k
            have hD2 := hD.set k (binByte v (m - 1 - k))
            rw [hset] at hD2
            have hsb := HS.out (m - 1 - k)
            have hD8 : (8 * ((m : Int) - 1 - k)).toNat = 8 * (m - 1 - k) := by omega
            generalize binByte v (m - 1 - k) = B at *
            have hB : ((B.toNat : Int)) < 256 := u8_lt B
            have hki : (k : Int) < m := by omega
            have HD2 := Lib.hid hD2
            clear hset hD2 hD hlen
            have h1 : v / 2 ^ (min 63 (8 * ((m : Int) - 1 - k))).toNat % 256 = (B.toNat : Int) := by
              by_cases h8 : m - 1 - k < 8
              · rw [show (min 63 (8 * ((m : Int) - 1 - k))).toNat = 8 * (m - 1 - k) by omega]
                exact hsb.1 h8
              · rw [show (min 63 (8 * ((m : Int) - 1 - k))).toNat = 63 by omega]
                exact hsb.2 (by omega)
            have hm0 : 0 ≤ 8 * ((m : Int) - 1 - k) := by omega
            clear hsb hD8
            go_wp2
            exact ⟨⟨k + 1, by omega, by go_num, HD2.out⟩, by simp [intOf]; omega⟩
          · obtain rfl : k = m := by omega
            have hfull := headRow_full (bin256 v k)
            rw [bin256_len] at hfull
            rw [hfull] at hD
            have hcell := hD.cell 0 (by rw [bin256_len]; omega)
            have hfz := hD.froz 0
            have hD2 := hD.set 0 (top1 ((bin256 v k).getD 0 0))
            have hor := or128 ((bin256 v k).getD 0 0)
            have hlt2 : (topRow (bin256 v k)).length = k := by unfold topRow; rw [List.length_set, bin256_len]
            have htr : (bin256 v k).set 0 (top1 ((bin256 v k).getD 0 0)) = topRow (bin256 v k) := rfl
            rw [htr] at hD2
            have hk0 : (0 : Int) < k := by omega
            have hk1 : 0 < k := by omega
            have hki : ¬ (k : Int) < k := by omega
            have HD2 := Lib.hid hD2; have HLL := Lib.hid hlt2
            generalize ((top1 ((bin256 v k).getD 0 0)).toNat : Int) = T1 at *
            generalize (((bin256 v k).getD 0 0).toNat : Int) = T0 at *
            clear hD hD2 hlt2 htr hfull hlen
            go_wp2
            go_ret2
            exact putRes_row HD2.out HLL.out hm64
theorem Put256_any (v n : Int) (w : World) (v0 : -9223372036854775808 ≤ v) (v1 : v ≤ 9223372036854775807) (n0 : -9223372036854775808 ≤ n) (n1 : n ≤ 9223372036854775807) :
    Calls Tryd.prog 9 #[.int .i64 v, .int .i64 n] w (PutRes w (Plain.put256 v n)) := (Put256_free v n w v0 v1 n0 n1).mono fun _ _ h => h.res
set_option maxRecDepth 100000 in
set_option maxHeartbeats 1600000 in
theorem RefPut256_any (v n : Int) (w : World) (v0 : -9223372036854775808 ≤ v) (v1 : v ≤ 9223372036854775807) (n0 : -9223372036854775808 ≤ n) (n1 : n ≤ 9223372036854775807) :
    Calls Tryd.prog 12 #[.int .i64 v, .int .i64 n] w (PutRes w (Plain.put256 v n)) := by
  by_cases h : n < 2 ∨ 64 < n
  · rw [put256_bad v n h]
    rcases h with h | h
    all_goals
      go_enter Tryd.func12, Tryd.ntmps12
      go_wp2
      all_goals
        go_ret2
        exact PutRes.nil _ (Below.refl _ _)
  · obtain ⟨m, rfl⟩ := Int.eq_ofNat_of_zero_le (by omega : 0 ≤ n)
    have hm2 : 2 ≤ m := by omega
    have hm64 : m ≤ 64 := by omega
    have hfi := fits_iff v m
    have e : Plain.put256 v m = if (m : Int) < 9 ∧ ¬ fits256 v m then ([], 11) else (topRow (bin256 v m), 0) := by
      unfold Plain.put256; rw [if_neg h]; rfl
    generalize Plain.put256 v m = r at *
    have hsh : (m : Int) ≤ 8 → (2 : Int) ^ (8 * (m : Int) - 2).toNat = 64 * 256 ^ (m - 1) ∧ 1 ≤ (64 : Int) * 256 ^ (m - 1) ∧ (64 : Int) * 256 ^ (m - 1) ≤ 4611686018427387904 := fun h8 => by
      refine ⟨by rw [show (8 * (m : Int) - 2).toNat = 8 * m - 2 by omega, pow_8n m (by omega)], ?_, ?_⟩
      · have : (0 : Int) < 256 ^ (m - 1) := Int.pow_pos (by decide)
        omega
      · have h1 : (256 : Nat) ^ (m - 1) ≤ 256 ^ 7 := Nat.pow_le_pow_right (by decide) (by omega)
        have h2 : ((256 ^ (m - 1) : Nat) : Int) ≤ (((256 : Nat) ^ 7 : Nat) : Int) := Int.ofNat_le.2 h1
        rw [Int.natCast_pow, Int.natCast_pow] at h2
        have e7 : ((256 : Nat) : Int) ^ 7 = 72057594037927936 := by rfl
        rw [e7] at h2
        have e8 : ((256 : Nat) : Int) = 256 := rfl
        rw [e8] at h2
        omega
    generalize (64 : Int) * 256 ^ (m - 1) = T at *
    have HE := Lib.hid e; have HF := Lib.hid hfi
    have hr0 : RowAt w 5 (fillRow 0 (binByte v) m 0 []) (w.alloc (.cells (rowA (List.replicate m 0)) 5)) := by
      rw [fillRow_zero, List.append_nil]
      exact RowAt.new w _ _
    have HR0 := Lib.hid hr0
    clear e hfi hr0
    generalize hz : List.replicate m (0 : UInt8) = z at HR0
    have HZ := Lib.hid hz; clear hz
    by_cases hbad : (m : Int) < 9 ∧ ¬ fits256 v m
    · have he := HE.out
      rw [if_pos hbad] at he
      subst he
      obtain ⟨hs, ht1, ht2⟩ := hsh (by omega)
      have h9 : (m : Int) ≤ 8 := by omega
      have hway : T - 1 < v ∨ (¬ T - 1 < v ∧ v < -(T - 1) - 1) := by
        have : ¬ (-T ≤ v ∧ v < T) := fun h2 => hbad.2 (HF.out.2 h2)
        omega
      clear hbad hsh h
      rcases hway with hw1 | ⟨hw1, hw2⟩
      all_goals
        go_enter Tryd.func12, Tryd.ntmps12
        go_wp2
        go_ret2
        exact PutRes.nil _ (Below.refl _ _)
    · have he := HE.out
      rw [if_neg hbad] at he
      subst he
      have hways : (¬ (m : Int) ≤ 8) ∨ ((m : Int) ≤ 8 ∧ (2 : Int) ^ (8 * (m : Int) - 2).toNat = T ∧ 1 ≤ T ∧ T ≤ 4611686018427387904 ∧ ¬ T - 1 < v ∧ ¬ v < -(T - 1) - 1) := by
        by_cases h9 : (m : Int) ≤ 8
        · right
          obtain ⟨hs, ht1, ht2⟩ := hsh h9
          have hf : fits256 v m := Classical.byContradiction fun hc => hbad ⟨by omega, hc⟩
          have := HF.out.1 hf
          exact ⟨h9, hs, ht1, ht2, by omega, by omega⟩
        · exact .inl h9
      have hn2 : ¬ (m : Int) < 2 := by omega
      have hn64 : ¬ (64 : Int) < m := by omega
      clear hbad hsh h HE
      go_enter Tryd.func12, Tryd.ntmps12
      go_upto_if 17 with fail
      go_cut [] (fun wx => w = wx)
      case first =>
        rcases hways with h9 | ⟨h9, hs, ht1, ht2, hw1, hw2⟩
        all_goals
          go_wp2
          go_meet
          rfl
      case rest =>
        obtain rfl := hcut
        clear hways
        go_wp2_with (at_make; (with_reducible refine wpList_make_bytes rfl _ _ _ rfl Tryd.underlying23 infoU8a m rfl rfl (by omega) ?_); rw [HZ.out])
        generalize hw0 : w.alloc (.cells (rowA z) 5) = w0 at *
        clear hw0
        go_loopw [8, 9] (fun x i wr => ∃ k : Nat, k ≤ m ∧ x = .int .i64 (v / 256 ^ k) ∧ i = .int .i64 ((m : Int) - 1 - k) ∧ RowAt w 5 (fillRow 0 (binByte v) m k []) wr) (fun _ i _ => (intOf i + 1).toNat)
        case atStart => exact ⟨0, by omega, by rw [Int.pow_zero, Int.ediv_one], by go_num, HR0.out⟩
        case round =>
          obtain ⟨k, hk, rfl, rfl, hD⟩ := hrel
          have hlen := fillRow_len 0 (binByte v) m k [] hk
          rw [List.length_nil, Nat.add_zero] at hlen
          by_cases hlt : k < m
          · have hset := fillRow_set 0 (binByte v) m k [] hlt
            obtain ⟨j, hj⟩ : ∃ j : Nat, (m : Int) - 1 - k = (j : Int) := ⟨m - 1 - k, by omega⟩
            have hjk : m - 1 - k = j := by omega
            have hcell := hD.cell j (by rw [hlen]; omega)
            have hfz := hD.froz j
            have hD2 := hD.set j (binByte v k)
            rw [← hjk, hset, hjk] at hD2
            have hbv := binByte_val v k
            have hnext : v / 256 ^ (k + 1) = v / 256 ^ k / 256 := by
              rw [Int.pow_succ, Int.ediv_ediv_of_nonneg (Int.le_of_lt (Int.pow_pos (by decide)))]
            have hxb : -9223372036854775808 ≤ v / 256 ^ k ∧ v / 256 ^ k ≤ 9223372036854775807 := by
              have hp : (0 : Int) < 256 ^ k := Int.pow_pos (by decide)
              generalize (256 : Int) ^ k = p at *
              constructor
              · rw [Int.le_ediv_iff_mul_le hp]
                omega
              · rcases Int.lt_or_le v 0 with h0 | h0
                · have := Int.ediv_neg_of_neg_of_pos h0 hp; omega
                · have := Int.ediv_le_self p h0; omega
            generalize hX' : v / 256 ^ (k + 1) = X' at *
            generalize v / 256 ^ k = X at *
            obtain ⟨x1, x2⟩ := hxb
            generalize binByte v k = B at *
            have hand : bits .and .i64 X 255 = (B.toNat : Int) := by rw [i64_and255, hbv]
            have hB : ((B.toNat : Int)) < 256 := u8_lt B
            have hjm : (j : Int) < m := by omega
            have HD2 := Lib.hid hD2; have HN := Lib.hid hnext; have HX := Lib.hid hX'
            clear hset hD2 hD hlen hbv hnext hX'
            go_wp2
            exact ⟨⟨k + 1, by omega, by rw [HX.out, HN.out], by go_num, HD2.out⟩, by simp [intOf]; omega⟩
          · obtain rfl : k = m := by omega
            have hfull := fillRow_full 0 (binByte v) k []
            rw [List.append_nil] at hfull
            have hfull2 : fillRow 0 (binByte v) k k [] = bin256 v k := hfull
            rw [hfull2] at hD
            have hcell := hD.cell 0 (by rw [bin256_len]; omega)
            have hfz := hD.froz 0
            have hD2 := hD.set 0 (top1 ((bin256 v k).getD 0 0))
            have hor := or128 ((bin256 v k).getD 0 0)
            have hlt2 : (topRow (bin256 v k)).length = k := by unfold topRow; rw [List.length_set, bin256_len]
            have htr : (bin256 v k).set 0 (top1 ((bin256 v k).getD 0 0)) = topRow (bin256 v k) := rfl
            rw [htr] at hD2
            have hk0 : (0 : Int) < k := by omega
            have hk1 : 0 < k := by omega
            have hki : (k : Int) - 1 - k < 0 := by omega
            have HD2 := Lib.hid hD2; have HLL := Lib.hid hlt2
            generalize ((top1 ((bin256 v k).getD 0 0)).toNat : Int) = T1 at *
            generalize (((bin256 v k).getD 0 0).toNat : Int) = T0 at *
            clear hD hD2 hlt2 htr hfull hfull2 hlen
            go_wp2
            go_ret2
            exact (putRes_row HD2.out HLL.out hm64).res
end Go.Proofs.YtamgiffkhnfpmaaDoor
namespace Go.Proofs.YtamgiffkhnfpmaaDoor
set_option linter.unusedVariables false
set_option linter.unusedSimpArgs false
open Go.ChangeShapes Go.WideShapes Go.ChangeAt Go.RowKit
theorem bs17 (w : World) : Bs (w.alloc (.cells #[.int .u8 32, .int .u8 49, .int .u8 55, .int .u8 32] 5 (4, 5))) (some ⟨w.heap.size, 0, none⟩) 4 4 [32, 49, 55, 32] :=
  isSl_mark w 5 1 4 #[.int .u8 32, .int .u8 49, .int .u8 55, .int .u8 32] _ rfl (by unfold maxLen; omega)
set_option maxHeartbeats 400000 in
theorem Alive_any (w : World) (ev : Value) (hE : ErrIs w ev) : Calls Tryd.prog 7 #[] w fun e w' => e = .returned (.bool true) ∧ Below w.heap.size w w' := by
  have hv : Plain.octal [32, 49, 55, 32] = (15, 0) := by decide +kernel
  have HV := Lib.hid hv; have HE := Lib.hid hE; clear hv hE
  have kc := fun (w : World) (C : Array Value) (n c : Nat) => Lib.run_convert_bytes_const (P := Tryd.prog) w 23 5 C n c Tryd.underlying23 Tryd.underlying5
  have hb := (Below.refl w.heap.size w).alloc (Nat.le_refl _) (.cells #[.int .u8 32, .int .u8 49, .int .u8 55, .int .u8 32] 5 (4, 5))
  have HB := Lib.hid hb; clear hb
  go_enter Tryd.func7, Tryd.ntmps7
  go_wp2_with (go_at_call 27; refine (Octal_any _ 4 4 [32, 49, 55, 32] _ ev (by exact bs17 w) (by decide) (by exact HE.out.below HB.out)).mono ?_; rintro e w1 ⟨rfl, hb1⟩; rw [HV.out]; unfold decV)
  go_ret
  exact ⟨ret_bool (by rfl), Below.seq HB.out hb1⟩
theorem dropWhile_snoc {p : UInt8 → Bool} (l : List UInt8) (c : UInt8) (hc : p c = false) : (l ++ [c]).dropWhile p = l.dropWhile p ++ [c] := by
  cases h : l.all p with
  | true => rw [dropWhile_pass l [c] h, dropWhile_all l h, List.dropWhile_cons_of_neg (by rw [hc]; exact Bool.false_ne_true)]; rfl
  | false => exact dropWhile_join l [c] h
theorem octHead_snoc (m : List UInt8) (c : UInt8) (hc : isOct c = false) : octHead (m ++ [c]) = octHead m := by
  have h1 := oct_split (m ++ [c])
  have h2 : octTail (m ++ [c]) = octTail m ++ [c] := dropWhile_snoc m c hc
  rw [h2, ← List.append_assoc] at h1
  have h3 := List.append_cancel_right h1
  have h4 := oct_split m
  rw [← h4] at h3
  rw [oct_split m] at h3
  exact List.append_cancel_right (by rw [h3, h4] : octHead (m ++ [c]) ++ octTail m = octHead m ++ octTail m)
/-- a blank ahead and a byte 0 behind change nothing -/
theorem octal_wide (l : List UInt8) : Plain.octal ([32] ++ l ++ [0]) = Plain.octal l := by
  have e : ([32] ++ l ++ [0]).dropWhile (· == 32) = l.dropWhile (· == 32) ++ [0] := by
    rw [List.append_assoc, List.singleton_append, List.dropWhile_cons_of_pos (by rfl), dropWhile_snoc l 0 (by rfl)]
  have h2 : octTail (l.dropWhile (· == 32) ++ [0]) = octTail (l.dropWhile (· == 32)) ++ [0] := dropWhile_snoc _ 0 (by decide)
  unfold Plain.octal
  simp only [e, h2, octHead_snoc _ 0 (by decide), List.all_append]
  have h0 : ([0] : List UInt8).all isGap = true := by decide
  rw [h0, Bool.and_true]
end Go.Proofs.YtamgiffkhnfpmaaDoor
namespace Go.Proofs.YtamgiffkhnfpmaaDoor
set_option linter.unusedVariables false
set_option linter.unusedSimpArgs false
open Go.ChangeShapes Go.WideShapes Go.ChangeAt Go.RowKit
theorem cut_marks {w : World} {a2 : Option Addr} {n k : Nat} {l : List UInt8} (hl : l.length = n) (hx : Bs w a2 (n - 0) k (((l ++ marks).take n).drop 0)) : Bs w a2 n k l := by
  rw [List.drop_zero, List.take_append_of_le_length (by rw [hl]; exact Nat.le_refl _), List.take_of_length_le (by rw [hl]; exact Nat.le_refl _)] at hx
  exact hx
end Go.Proofs.YtamgiffkhnfpmaaDoor
namespace Go.Proofs.YtamgiffkhnfpmaaDoor
set_option linter.unusedVariables false
set_option linter.unusedSimpArgs false
open Go.ChangeShapes Go.WideShapes Go.ChangeAt Go.RowKit
set_option maxHeartbeats 800000 in
theorem Put_free (v n : Int) (w : World) (hT : Bru w) (v0 : -9223372036854775808 ≤ v) (v1 : v ≤ 9223372036854775807) (n0 : -9223372036854775808 ≤ n) (n1 : n ≤ 9223372036854775807) :
    Calls Tryd.prog 10 #[.int .i64 v, .int .i64 n] w (PutResF w (Plain.put v n)) := by
  have H1 := Lib.hid (PutOctal_free v n w hT v0 v1 n0 n1)
  have H2 := Lib.hid (fun w => Put256_free v n w v0 v1 n0 n1)
  unfold Plain.put
  generalize Plain.putOctal v n = p at *
  generalize Plain.put256 v n = q at *
  obtain ⟨p1, p2⟩ := p
  obtain ⟨q1, q2⟩ := q
  by_cases h : p2 = 0
  · subst h
    rw [if_pos rfl]
    clear hT
    go_enter Tryd.func10, Tryd.ntmps10
    go_wp2_with (go_at_call 8; (with_reducible refine (H1.out).mono ?_); rintro e w1 ⟨a1, m1, c1, rfl, hbs, hb, hf⟩)
    go_ret2
    exact ⟨a1, m1, c1, rfl, hbs, hb, hf⟩
  · rw [if_neg h]
    have hne : (p2 == 0) = false := by rw [beq_eq_false_iff_ne]; exact h
    clear hT h
    go_enter Tryd.func10, Tryd.ntmps10
    go_wp2_with (first
      | (go_at_call 8; (with_reducible refine (H1.out).mono ?_); rintro e w1 ⟨a1, m1, c1, rfl, hbs, hb, hf⟩)
      | (go_at_call 9; (with_reducible refine (H2.out _).mono ?_); rintro e w2 ⟨a2, m2, c2, rfl, hbs2, hb2, hf2⟩))
    go_ret2
    exact ⟨a2, m2, c2, rfl, hbs2, Below.seq hb hb2, hf2.base hb.size⟩
theorem Put_any (v n : Int) (w : World) (hT : Bru w) (v0 : -9223372036854775808 ≤ v) (v1 : v ≤ 9223372036854775807) (n0 : -9223372036854775808 ≤ n) (n1 : n ≤ 9223372036854775807) :
    Calls Tryd.prog 10 #[.int .i64 v, .int .i64 n] w (PutRes w (Plain.put v n)) := (Put_free v n w hT v0 v1 n0 n1).mono fun _ _ h => h.res
set_option maxHeartbeats 800000 in
theorem RefPut_any (v n : Int) (w : World) (v0 : -9223372036854775808 ≤ v) (v1 : v ≤ 9223372036854775807) (n0 : -9223372036854775808 ≤ n) (n1 : n ≤ 9223372036854775807) :
    Calls Tryd.prog 13 #[.int .i64 v, .int .i64 n] w (PutRes w (Plain.put v n)) := by
  have H1 := Lib.hid (RefPutOctal_any v n w v0 v1 n0 n1)
  have H2 := Lib.hid (fun w => RefPut256_any v n w v0 v1 n0 n1)
  unfold Plain.put
  generalize Plain.putOctal v n = p at *
  generalize Plain.put256 v n = q at *
  obtain ⟨p1, p2⟩ := p
  obtain ⟨q1, q2⟩ := q
  by_cases h : p2 = 0
  · subst h
    rw [if_pos rfl]
    go_enter Tryd.func13, Tryd.ntmps13
    go_wp2_with (go_at_call 11; (with_reducible refine (H1.out).mono ?_); rintro e w1 ⟨a1, m1, c1, rfl, hbs, hb⟩)
    go_ret2
    exact ⟨a1, m1, c1, rfl, hbs, hb⟩
  · rw [if_neg h]
    have hne : (p2 == 0) = false := by rw [beq_eq_false_iff_ne]; exact h
    clear h
    go_enter Tryd.func13, Tryd.ntmps13
    go_wp2_with (first
      | (go_at_call 11; (with_reducible refine (H1.out).mono ?_); rintro e w1 ⟨a1, m1, c1, rfl, hbs, hb⟩)
      | (go_at_call 12; (with_reducible refine (H2.out _).mono ?_); rintro e w2 ⟨a2, m2, c2, rfl, hbs2, hb2⟩))
    go_ret2
    exact ⟨a2, m2, c2, rfl, hbs2, Below.seq hb hb2⟩
theorem put256_code (v n : Int) (h : (Plain.put v n).2 ≠ 0) : (Plain.put v n).1.length = 0 := by rw [(put_code v n h).1]; rfl
end Go.Proofs.YtamgiffkhnfpmaaDoor
