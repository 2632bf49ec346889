/-
  BinWalk: numeral.Base256.
-/
import Derived.Test.YtjchaogfmnabfaaDoorBin
import Derived.Test.YtjchaogfmnabfaaDoorDec
import Derived.Test.YtjchaogfmnabfaaDoorProg
import Derived.Laws.BitsAllLaws
import Derived.Outline
namespace Go.Proofs.YtjchaogfmnabfaaDoor
open Go.ChangeShapes Go.WideShapes Go.ChangeAt Go.RowKit
theorem i64_or256 (x y : Int) (h : x % 256 = 0) (h0 : 0 ≤ y) (h1 : y < 256) : bits .or .i64 x y = IntKind.i64.wrap (x + y) := by
  obtain ⟨b, rfl⟩ := Int.eq_ofNat_of_zero_le h0
  have hb : b < 2 ^ 8 := by omega
  obtain ⟨m, hm⟩ : ∃ m : Nat, (x % ((2 ^ 64 : Nat) : Int)).toNat = 2 ^ 8 * m := ⟨(x % ((2 ^ 64 : Nat) : Int)).toNat / 256, by omega⟩
  have key : (BitVec.ofInt 64 x ||| BitVec.ofInt 64 (b : Int)).toNat = 2 ^ 8 * m + b := by
    rw [BitVec.toNat_or, BitVec.toNat_ofInt, BitVec.toNat_ofInt, hm, show ((b : Int) % ((2 ^ 64 : Nat) : Int)).toNat = b by omega, Nat.two_pow_add_eq_or_of_lt hb]
  show IntKind.i64.wrap ((BitVec.ofInt 64 x ||| BitVec.ofInt 64 (b : Int)).toNat : Nat) = _
  rw [key, IntKind.wrap_i64, IntKind.wrap_i64]
  omega
theorem ret_val {k : IntKind} {x y : Int} (h : x = y) : Value.int k x = Value.int k y := by rw [h]
theorem Base256_low (a : Option Addr) (n c : Nat) (l : List UInt8) (w : World) (h : Bs w a n c l) (hlow : l = [] ∨ (l.getD 0 0).toNat < 128) :
    Calls Tryd.prog 64 #[.slice a n c] w fun e w' => e = .returned (decV (Plain.base256 l)) ∧ w = w' := by
  have hl := h.len; have hcap := h.cap; have hmax := h.max
  rw [Plain.base256_low l hlow]
  by_cases h0 : n = 0
  · subst h0
    go_enter Tryd.func64, Tryd.ntmps64
    go_wp2
    go_ret2
    exact ⟨rfl, rfl⟩
  · have hc := h.at 0 (by omega)
    have hg : (l.getD 0 0).toNat < 128 := by
      rcases hlow with h1 | h1
      · subst h1; simp at hl; omega
      · exact h1
    obtain ⟨b, off, rfl, hc⟩ := hc
    rw [Nat.add_zero] at hc
    generalize hG : ((l.getD 0 0).toNat : Int) = G at hc
    have g1 : G < 128 := by omega
    have hn0 : ((n : Int) == 0) = false := by rw [beq_eq_false_iff_ne]; omega
    have hn1 : (0 : Int) < n := by omega
    have hn2 : 0 < n := by omega
    have HL := Lib.hid hl; clear hl hG hlow h0
    go_enter Tryd.func64, Tryd.ntmps64
    go_wp2
    go_ret2
    exact ⟨rfl, rfl⟩
set_option maxRecDepth 100000 in
set_option maxHeartbeats 1600000 in
theorem Base256_high (a : Option Addr) (n c : Nat) (l : List UInt8) (w : World) (h : Bs w a n c l) (hne : 0 < l.length) (hhi : ¬ (l.getD 0 0).toNat < 128) :
    Calls Tryd.prog 64 #[.slice a n c] w fun e w' => e = .returned (decV (Plain.base256 l)) ∧ w = w' := by
  have hl := h.len; have hcap := h.cap; have hmax := h.max
  have hb := Plain.base256_at l hne hhi
  generalize Plain.base256 l = r at *
  obtain ⟨b, off, rfl, hc⟩ := h.at 0 (by omega)
  rw [Nat.add_zero] at hc
  have hbh : 2 * (binHead (l.getD 0 0)) = wrap64 (IntKind.i8.wrap (((l.getD 0 0).toNat : Int) * 2 % 256)) ∧ -64 ≤ binHead (l.getD 0 0) ∧ binHead (l.getD 0 0) ≤ 63 := by
    have := u8_lt (l.getD 0 0)
    unfold binHead
    generalize l.getD 0 0 = x at *
    simp [IntKind.wrap, IntKind.bits, IntKind.signed, wrap64]
    split <;> omega
  generalize binHead (l.getD 0 0) = s at *
  generalize hG : ((l.getD 0 0).toNat : Int) = G at hc hbh
  have g1 : 128 ≤ G := by omega
  have g2 : G < 256 := by have := u8_lt (l.getD 0 0); omega
  have hn0 : ((n : Int) == 0) = false := by rw [beq_eq_false_iff_ne]; omega
  have hn1 : (1 : Int) ≤ n := by omega
  have hn2 : 0 < n := by omega
  have hcut : (l.take n).drop 1 = l.drop 1 := by rw [List.take_of_length_le (by omega)]
  have hml : (l.drop 1).length = n - 1 := by rw [List.length_drop]; omega
  have HC := Lib.hid hcut; have HBH := Lib.hid hbh; have HB := Lib.hid hb; have HML := Lib.hid hml
  clear hl hG hcut hbh hb hml hhi hne
  go_enter Tryd.func64, Tryd.ntmps64
  go_wp2_with (first | ((with_reducible refine wpList_slice_bs rfl _ _ _ _ rfl Tryd.underlying22 (by kernel_rfl) rfl h 1 n .i64 .i64 rfl rfl (by omega) (by omega) ?_); intro a2 hb2; rw [HC.out] at hb2))
  clear h hc
  go_loop [26, 4] (fun i v => ∃ (k : Nat) (V : Int), k ≤ n - 1 ∧ i = .int .i64 k ∧ v = .int .i64 V ∧ -9223372036854775808 ≤ V ∧ V ≤ 9223372036854775807 ∧ Hid (binAcc s ((l.drop 1).take k) = V)) (fun i _ => n - 1 - (intOf i).toNat)
  case atStart =>
    obtain ⟨e1, e2, e3⟩ := HBH.out
    exact ⟨0, s, by omega, rfl, ret_val (by rw [← e1]; omega), by omega, by omega, Lib.hid (by rw [List.take_zero, binAcc_nil])⟩
  case round =>
    obtain ⟨k, V, hk, rfl, rfl, v1, v2, hV⟩ := hrel
    by_cases hlt : k < n - 1
    · obtain ⟨b1, off1, rfl, hc⟩ := hb2.at k hlt
      have hstep := binAcc_step s (l.drop 1) k (by rw [HML.out]; exact hlt)
      have hout : V < -36028797018963968 ∨ 36028797018963967 < V → r = (0, 11) := fun ho => by
        rw [HB.out, binAcc_out s (l.drop 1) k (by rw [HML.out]; exact hlt) (by rw [hV.out]; exact ho)]; rfl
      rw [hV.out] at hstep
      generalize hX : (((l.drop 1).getD k 0).toNat : Int) = X at hc hstep
      have x1 : 0 ≤ X := by omega
      have x2 : X < 256 := by have := u8_lt ((l.drop 1).getD k 0); omega
      have HST := Lib.hid hstep; have HO := Lib.hid hout; clear hstep hout hX hV
      have hi : (k : Int) < ((n - 1 : Nat) : Int) := by omega
      by_cases hin : V < -36028797018963968 ∨ 36028797018963967 < V
      · obtain rfl := HO.out hin
        have q1 : (V / 36028797018963968 != 0) = true := by rw [bne_iff_ne]; omega
        have q2 : (V / 36028797018963968 != -1) = true := by rw [bne_iff_ne]; omega
        clear hin
        go_wp2
        go_ret2
        exact ⟨rfl, rfl⟩
      · have hor : bits .or .i64 (V * 256) X = V * 256 + X := by
          rw [i64_or256 _ _ (by omega) x1 x2, IntKind.wrap_i64]; omega
        have n1 : -36028797018963968 ≤ V := by omega
        have n2 : V ≤ 36028797018963967 := by omega
        have n3 : -9223372036854775808 ≤ V * 256 := by omega
        have n4 : V * 256 ≤ 9223372036854775807 := by omega
        clear hin
        by_cases hneg : V < 0
        · have q1 : (V / 36028797018963968 != 0) = true := by rw [bne_iff_ne]; omega
          have q2 : (V / 36028797018963968 != -1) = false := by rw [bne_eq_false_iff_eq]; omega
          go_wp2
          go_round
          case rel => exact ⟨k + 1, V * 256 + X, by omega, by go_num, rfl, by omega, by omega, HST⟩
          case measure => simp [intOf]; omega
        · have q1 : (V / 36028797018963968 != 0) = false := by rw [bne_eq_false_iff_eq]; omega
          go_wp2
          go_round
          case rel => exact ⟨k + 1, V * 256 + X, by omega, by go_num, rfl, by omega, by omega, HST⟩
          case measure => simp [intOf]; omega
    · obtain rfl : k = n - 1 := by omega
      have hv := hV.out
      rw [List.take_of_length_le (by rw [HML.out]; exact Nat.le_refl _)] at hv
      have hr := HB.out
      rw [hv, if_pos ((inI64_iff V).2 ⟨v1, v2⟩)] at hr
      subst hr
      have hi : ¬ ((n - 1 : Nat) : Int) < ((n - 1 : Nat) : Int) := by omega
      clear hv hV
      go_wp2
      go_ret2
      exact ⟨rfl, rfl⟩
theorem Base256_any (a : Option Addr) (n c : Nat) (l : List UInt8) (w : World) (h : Bs w a n c l) :
    Calls Tryd.prog 64 #[.slice a n c] w fun e w' => e = .returned (decV (Plain.base256 l)) ∧ w = w' := by
  by_cases hlow : l = [] ∨ (l.getD 0 0).toNat < 128
  · exact Base256_low a n c l w h hlow
  · exact Base256_high a n c l w h (by cases l; exact absurd (.inl rfl) hlow; simp) (fun h => hlow (.inr h))
end Go.Proofs.YtjchaogfmnabfaaDoor
