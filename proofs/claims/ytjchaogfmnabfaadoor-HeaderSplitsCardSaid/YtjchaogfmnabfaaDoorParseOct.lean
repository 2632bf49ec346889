/-
  ParseOct: strconv.ParseInt(s, 8, 64) where s is octal digits, one at least.
-/
import Derived.Test.YtjchaogfmnabfaaDoorOct
import Derived.Test.YtjchaogfmnabfaaDoorDecs
import Derived.Lib.ConvBytes
import Derived.Lib.AtoiAllMem
import Derived.Laws.Strings3
import Derived.Laws.Closers25
import Derived.Laws.Closers25b
namespace Go.Proofs.YtjchaogfmnabfaaDoor
open Go.ChangeShapes Go.WideShapes Go.ChangeAt Go.RowKit
/-- what ParseUint hands back -/
def octTuple (t : TypeId) (v : Nat) : Value := if v ≤ 18446744073709551615 then .tuple #[.int .u64 (v : Int), .nilIface] else .tuple #[.int .u64 18446744073709551615, .iface t (.int .i64 1)]
set_option maxHeartbeats 8000000 in
set_option maxRecDepth 100000 in
theorem ParseUint8_any (bs : List UInt8) (hne : bs ≠ []) (hmax : bs.length ≤ 140737488355328) (hall : bs.all isOct = true) (w : World) :
    Calls Tryd.prog 119 #[.string ⟨bs.toArray⟩, .int .i64 8, .int .i64 64] w fun e w' => e = .returned (octTuple 134 (octAcc 0 bs)) ∧ w' = Lib.bytesWorld w 5 ⟨bs.toArray⟩ := by
  have c1b : bs.isEmpty = false := by simpa using hne
  have hcv := Lib.run_convert_string_bytes (P := Tryd.prog) w 9 22 5 ⟨bs.toArray⟩ (u := .string) Tryd.underlying9 Tryd.underlying22 Tryd.underlying5
  have hB : ∀ j, j < bs.length → (Lib.bytesWorld w 5 ⟨bs.toArray⟩).cell? ⟨w.heap.size, j, none⟩ = some (.int .u8 (bs.getD j 0).toNat) := fun j hj => Lib.bytesWorld_cell w 5 ⟨bs.toArray⟩ j (by simpa [ByteArray.size] using hj)
  obtain ⟨W1, hW1⟩ : ∃ W1, W1 = Lib.bytesWorld w 5 ⟨bs.toArray⟩ := ⟨_, rfl⟩
  rw [← hW1] at hcv hB ⊢
  clear hW1
  have hmv : IntKind.u64.wrap (IntKind.u64.wrap 18446744073709551616 - 1) = 18446744073709551615 := by
    rw [IntKind.wrap_u64, IntKind.wrap_u64]
    decide
  have HB := Lib.hid hB; have HALL := Lib.hid hall; clear hB hall
  generalize hR : octTuple 134 (octAcc 0 bs) = R
  have HR := Lib.hid hR; clear hR
  have hcut8 : IntKind.u64.wrap (18446744073709551615 / 8 + 1) = 2305843009213693952 := by rw [IntKind.wrap_u64]; decide
  go_enter Tryd.func119, Tryd.ntmps119
  go_wp2
  go_loop [12, 13, 101] (fun vu vn vi => ∃ (k : Nat) (a : Int), vu = .bool false ∧ vn = .int .u64 a ∧ vi = .int .i64 k ∧ k ≤ bs.length ∧ Hid (a = (octAcc 0 (bs.take k) : Nat) ∧ octAcc 0 (bs.take k) < 18446744073709551616))
    (fun _ _ vi => bs.length - (intOf vi).toNat)
  case atStart => exact ⟨0, 0, rfl, rfl, rfl, by omega, Lib.hid (by rw [List.take_zero, octAcc_nil]; decide)⟩
  case round =>
    obtain ⟨k, a, rfl, rfl, rfl, hk, hh⟩ := hrel
    obtain ⟨ha, hacc⟩ := hh.out
    clear hh
    have a0 : 0 ≤ a := by omega
    have a1 : a < 18446744073709551616 := by omega
    by_cases hkn : k < bs.length
    · have hc := HB.out k hkn
      have hdig := oct_at bs k hkn HALL.out
      have hst := octAcc_step bs k hkn
      have hle := octAcc_take_le bs (k + 1)
      generalize bs.getD k 0 = c at hc hdig hst
      have hc256 : c.toNat < 256 := c.toNat_lt
      obtain ⟨hd0, hd1⟩ := hdig
      have e0 : (48 : Int) ≤ c.toNat := by omega
      have e1 : (c.toNat : Int) ≤ 55 := by omega
      by_cases hcut : 2305843009213693952 ≤ a
      · have hf : octTuple 134 (octAcc 0 bs) = .tuple #[.int .u64 18446744073709551615, .iface 134 (.int .i64 1)] := by
          unfold octTuple; rw [if_neg (by omega)]
        obtain rfl := (HR.out.symm.trans hf)
        clear hf ha hacc hst hle
        go_wp2
        go_ret2
        exact ⟨rfl, rfl⟩
      · have HN : Hid (a * 8 + ((c.toNat : Int) - 48) = (octAcc 0 (bs.take (k + 1)) : Nat) ∧ octAcc 0 (bs.take (k + 1)) < 18446744073709551616) := Lib.hid ⟨by omega, by omega⟩
        have icut : a < 2305843009213693952 := by omega
        have iov : a * 8 + ((c.toNat : Int) - 48) < 18446744073709551616 := by omega
        clear hcut ha hacc hst hle
        go_wp2
        exact ⟨⟨k + 1, a * 8 + ((c.toNat : Int) - 48), rfl, (by first | rfl | (congr 1; omega)), (by first | rfl | (congr 1; omega)), by omega, HN⟩, by simp [intOf]; omega⟩
    · obtain rfl : k = bs.length := by omega
      rw [List.take_length] at ha hacc
      have hf : octTuple 134 (octAcc 0 bs) = .tuple #[.int .u64 a, .nilIface] := by
        unfold octTuple; rw [if_pos (by omega), ha]
      obtain rfl := (HR.out.symm.trans hf)
      clear hf ha hacc
      go_wp2
      go_ret2
      exact ⟨rfl, rfl⟩
/-- what the inner ParseInt hands back -/
def octIntV (t : TypeId) (v : Nat) : Value := if v ≤ 9223372036854775807 then .tuple #[.int .i64 (v : Int), .nilIface] else .tuple #[.int .i64 9223372036854775807, .iface t (.int .i64 1)]
set_option maxHeartbeats 8000000 in
set_option maxRecDepth 100000 in
theorem ParseInt8_any (bs : List UInt8) (hne : bs ≠ []) (hmax : bs.length ≤ 140737488355328) (hall : bs.all isOct = true) (w : World) :
    Calls Tryd.prog 97 #[.string ⟨bs.toArray⟩, .int .i64 8, .int .i64 64] w fun e w' => e = .returned (octIntV 134 (octAcc 0 bs)) ∧ Below w.heap.size w w' := by
  have c1b : bs.isEmpty = false := by simpa using hne
  have c0 : 0 < bs.length := List.length_pos_iff.2 hne
  have hx := str_at bs 0 c0
  have hd := oct_at bs 0 c0 hall
  have hU := ParseUint8_any bs hne hmax hall w
  generalize bs.getD 0 0 = g at hx hd
  have h43 : ((g.toNat : Int) == 43) = false := by rw [beq_eq_false_iff_ne]; omega
  have h45 : ((g.toNat : Int) == 45) = false := by rw [beq_eq_false_iff_ne]; omega
  have hq1 : ∀ W, (binOp .neq 96 (.iface 134 (.int .i64 1)) (.iface 134 (.int .i64 1))).run Tryd.prog W = .ok (.bool false) W := fun W => Lib.run_neq_iface_int W 1 1 Tryd.underlying96 (by kernel_rfl) Tryd.underlying134
  clear hd hne hall
  generalize octAcc 0 bs = v at *
  by_cases h1 : v ≤ 9223372036854775807
  · have e1 : octTuple 134 v = .tuple #[.int .u64 (v : Int), .nilIface] := by unfold octTuple; rw [if_pos (by omega)]
    have e2 : octIntV 134 v = .tuple #[.int .i64 (v : Int), .nilIface] := by unfold octIntV; rw [if_pos h1]
    rw [e1] at hU
    rw [e2]
    obtain ⟨a, ha⟩ : ∃ a : Int, a = (v : Int) := ⟨_, rfl⟩
    rw [← ha] at hU ⊢
    have HU := Lib.hid hU
    have i1 : a < 9223372036854775808 := by omega
    have i0 : 0 ≤ a := by omega
    clear e1 e2 hU h1 ha
    go_enter Tryd.func97, Tryd.ntmps97
    go_wp2_with (go_at_call 119; refine (HU.out).mono ?_; rintro e w1 ⟨rfl, hw1⟩; have HW := Lib.hid hw1; clear hw1)
    go_ret2
    exact ⟨rfl, by rw [HW.out]; exact Lib.bytesWorld_below _ _ _⟩
  · have e2 : octIntV 134 v = .tuple #[.int .i64 9223372036854775807, .iface 134 (.int .i64 1)] := by unfold octIntV; rw [if_neg h1]
    rw [e2]
    by_cases h2 : v ≤ 18446744073709551615
    · have e1 : octTuple 134 v = .tuple #[.int .u64 (v : Int), .nilIface] := by unfold octTuple; rw [if_pos h2]
      rw [e1] at hU
      obtain ⟨a, ha⟩ : ∃ a : Int, a = (v : Int) := ⟨_, rfl⟩
      rw [← ha] at hU
      have HU := Lib.hid hU
      have i1 : 9223372036854775808 ≤ a := by omega
      have i2 : a ≤ 18446744073709551615 := by omega
      clear e1 e2 hU h1 h2 ha
      go_enter Tryd.func97, Tryd.ntmps97
      go_wp2_with (go_at_call 119; refine (HU.out).mono ?_; rintro e w1 ⟨rfl, hw1⟩; have HW := Lib.hid hw1; clear hw1)
      go_ret2
      exact ⟨rfl, by rw [HW.out]; exact Lib.bytesWorld_below _ _ _⟩
    · have e1 : octTuple 134 v = .tuple #[.int .u64 18446744073709551615, .iface 134 (.int .i64 1)] := by unfold octTuple; rw [if_neg h2]
      rw [e1] at hU
      have HU := Lib.hid hU
      clear e1 e2 hU h1 h2
      go_enter Tryd.func97, Tryd.ntmps97
      go_wp2_with (go_at_call 119; refine (HU.out).mono ?_; rintro e w1 ⟨rfl, hw1⟩; have HW := Lib.hid hw1; clear hw1)
      go_ret2
      exact ⟨rfl, by rw [HW.out]; exact Lib.bytesWorld_below _ _ _⟩
set_option maxHeartbeats 4000000 in
set_option maxRecDepth 100000 in
theorem ParseIntOct_any (bs : List UInt8) (hne : bs ≠ []) (hmax : bs.length ≤ 140737488355328) (hall : bs.all isOct = true) (w : World) (ev : Value) (hE : ErrIs w ev) :
    Calls Tryd.prog 75 #[.string ⟨bs.toArray⟩, .int .i64 8, .int .i64 64] w fun e w' => ∃ (x : Int) (er : Value), e = .returned (.tuple #[.int .i64 x, er]) ∧ Below w.heap.size w w' ∧
      (octAcc 0 bs ≤ 9223372036854775807 → x = octAcc 0 bs ∧ er = .nilIface) ∧ (¬ octAcc 0 bs ≤ 9223372036854775807 → ∃ t p, er = .iface t p) := by
  have hI := ParseInt8_any bs hne hmax hall w
  generalize octAcc 0 bs = v at *
  by_cases h1 : v ≤ 9223372036854775807
  · have e2 : octIntV 134 v = .tuple #[.int .i64 (v : Int), .nilIface] := by unfold octIntV; rw [if_pos h1]
    rw [e2] at hI
    have HI := Lib.hid hI; clear hI e2
    go_enter Tryd.func75, Tryd.ntmps75
    go_wp2_with (go_at_call 97; refine (HI.out).mono ?_; rintro e w1 ⟨rfl, hb1⟩)
    go_ret2
    exact ⟨_, _, rfl, hb1, fun _ => ⟨rfl, rfl⟩, fun h => absurd h1 h⟩
  · have e2 : octIntV 134 v = .tuple #[.int .i64 9223372036854775807, .iface 134 (.int .i64 1)] := by unfold octIntV; rw [if_neg h1]
    rw [e2] at hI
    have HI := Lib.hid hI
    have HE := Lib.hid hE
    have HH := Lib.hid h1
    clear hI e2 h1 hE
    go_enter Tryd.func75, Tryd.ntmps75
    go_wp2_with (first
      | (go_at_call 97; refine (HI.out).mono ?_; rintro e w1 ⟨rfl, hb1⟩; have HB1 := Lib.hid hb1; clear hb1)
      | (go_at_call 98; refine (Tryd.strconv_toError_range _ _ 8 64 ev _ (by simp [ByteArray.size]; omega) (by exact (HE.out.below HB1.out).1) (Or.inr HE.out.2)).mono ?_; rintro e w2 ⟨N, rfl, hN1, hN2, hb2⟩; have HB2 := Lib.hid hb2; clear hb2 hN1 hN2))
    go_ret2
    exact ⟨_, _, rfl, Below.seq HB1.out HB2.out, fun h => absurd h HH.out, fun _ => ⟨_, _, rfl⟩⟩
end Go.Proofs.YtjchaogfmnabfaaDoor
