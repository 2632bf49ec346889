/-
  UseBytes: what valiseref00's SameBytes answers.
-/
import Derived.Test.YtbioidbbijmnjaaBase
import Derived.Test.YtbioidbbijmnjaaProg
namespace Go.Proofs.Ytbioidbbijmnjaa
open Go.ChangeShapes Go.WideShapes Go.ChangeAt Go.RowKit
theorem same_no {x y : List UInt8} {k : Nat} (h : ((x.getD k 0).toNat : Int) ≠ ((y.getD k 0).toNat : Int)) : decide (x = y) = false := by
  simp only [decide_eq_false_iff_not]; intro e; subst e; exact h rfl
theorem same_step {x y : List UInt8} {k : Nat} (hk : k < x.length) (hl : y.length = x.length) (ih : x.take k = y.take k) (h : ((x.getD k 0).toNat : Int) = ((y.getD k 0).toNat : Int)) : x.take (k + 1) = y.take (k + 1) := by
  have h1 : k < y.length := by omega
  have he : x[k] = y[k] := by
    have : (x.getD k 0) = (y.getD k 0) := UInt8.toNat_inj.1 (by omega)
    simpa [List.getD, List.getElem?_eq_getElem hk, List.getElem?_eq_getElem h1] using this
  rw [List.take_succ_eq_append_getElem hk, List.take_succ_eq_append_getElem h1, ih, he]
set_option maxHeartbeats 400000 in
theorem SameBytes_any (a b : Option Addr) (n m c d : Nat) (x y : List UInt8) (w : World) (ha : Bs w a n c x) (hb : Bs w b m d y) :
    Calls Try.prog 8 #[.slice a n c, .slice b m d] w fun e w' => e = .returned (.bool (decide (x = y))) ∧ Below w.heap.size w w' := by
  have hx := ha.len; have hy := hb.len; have c1 := ha.cap; have c2 := hb.cap; have m1 := ha.max; have m2 := hb.max
  by_cases hnm : n = m
  · subst hnm
    have hn : ((n : Int) != n) = false := by simp
    generalize hr : decide (x = y) = r
    have HR := Lib.hid hr; clear hr
    have HX := Lib.hid hx; have HY := Lib.hid hy; clear hx hy
    go_enter Try.func8, Try.ntmps8
    go_wp2
    go_loopw [5] (fun i wr => ∃ k : Nat, k ≤ n ∧ i = .int .i64 k ∧ Hid (x.take k = y.take k) ∧ Below w.heap.size w wr) (fun i _ => n - (intOf i).toNat)
    case atStart => exact ⟨0, Nat.zero_le _, rfl, (rfl : x.take 0 = y.take 0), Below.refl _ _⟩
    case round =>
      obtain ⟨k, hk, rfl, heq, hbel⟩ := hrel
      by_cases hlt : k < n
      · obtain ⟨b1, o1, rfl, h1⟩ := (Below.bs hbel ha).at k hlt
        obtain ⟨b2, o2, rfl, h2⟩ := (Below.bs hbel hb).at k hlt
        clear ha hb
        generalize hg1 : ((x.getD k 0).toNat : Int) = g1 at h1
        generalize hg2 : ((y.getD k 0).toNat : Int) = g2 at h2
        have HG1 := Lib.hid hg1; have HG2 := Lib.hid hg2; clear hg1 hg2
        by_cases hne : g1 = g2
        · have hz : (g1 != g2) = false := bne_f hne
          have HE := Lib.hid hne; clear hne
          go_wp2
          go_quiet (fail)
          go_wp2
          exact ⟨⟨k + 1, by omega, by go_num, same_step (by have := HX.out; omega) (by have := HX.out; have := HY.out; omega) heq (by rw [HG1.out, HG2.out, HE.out]), Below.drewN hbel _⟩, by simp [intOf]; omega⟩
        · have hz : (g1 != g2) = true := bne_t hne
          have HE := Lib.hid hne; clear hne
          go_wp2
          go_quiet (fail)
          go_wp2
          go_ret
          exact ⟨ret_bool (by rw [← HR.out]; exact (same_no (k := k) (by rw [HG1.out, HG2.out]; exact HE.out)).symm), Below.drewN hbel _⟩
      · obtain rfl : k = n := by omega
        go_wp2
        go_ret
        refine ⟨ret_bool ?_, hbel⟩
        have h1 := HX.out; have h2 := HY.out; have h3 := heq.out
        rw [List.take_of_length_le (by omega), List.take_of_length_le (by omega)] at h3
        rw [← HR.out]; simp [h3]
  · have hne : decide (x = y) = false := by
      simp only [decide_eq_false_iff_not]; intro h; subst h; omega
    rw [hne]; clear hne
    have hn : ((n : Int) != m) = true := by rw [bne_iff_ne]; omega
    go_enter Try.func8, Try.ntmps8
    go_wp2
    go_ret
    exact ⟨rfl, Below.refl _ _⟩
end Go.Proofs.Ytbioidbbijmnjaa
