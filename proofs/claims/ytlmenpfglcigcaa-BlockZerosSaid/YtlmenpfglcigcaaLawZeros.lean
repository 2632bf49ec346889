/-
  LawZeros: the law BlockZeros, walked.
-/
import Derived.Test.YtlmenpfglcigcaaBlock
namespace Go.Proofs.Ytlmenpfglcigcaa
open Go.ChangeShapes Go.WideShapes Go.ChangeAt Go.RowKit
theorem all_take (m : List UInt8) (k : Nat) (h : k < m.length) : (m.take (k + 1)).all (· == 0) = ((m.take k).all (· == 0) && (m.getD k 0 == 0)) := by
  rw [List.take_succ_eq_append_getElem h, List.all_append]
  simp [List.getD, List.getElem?_eq_getElem h]
theorem all_zblk (m : List UInt8) (h : m.length = 512) : m.all (· == 0) = decide (m = zblk) := by
  rw [Bool.eq_iff_iff, List.all_eq_true, decide_eq_true_eq]
  unfold zblk
  rw [List.eq_replicate_iff]
  simp [h]
set_option maxRecDepth 100000 in
set_option maxHeartbeats 1000000 in
theorem BlockZeros_walk (a : Option Addr) (n c : Nat) (l : List UInt8) (w : World) (h : Bs w a n c l) (_hc : c ≤ 140737488351232) :
    Calls Try.prog 3 #[.slice a n c] w fun e w' => e = .returned (.bool true) ∧ Below w.heap.size w w' := by
  have hm := ofL_len l
  have hz := zeroBlk
  have HZ := Lib.hid hz; clear hz
  have HI := Lib.hid (sizeBlk (ofL l) hm)
  have HO := Lib.hid (blkA_one (ofL l))
  have hs2 : Hid ((blkA zblk).size = (blkA (ofL l)).size) := by show _ = _; rw [blkA_size, blkA_size, zblk_len, hm]
  have HM := Lib.hid hm; clear hm
  go_enter Try.func3, Try.ntmps3
  go_wp2_with (first
    | (go_at_call 13; refine (Of_any _ _ _ _ _ h).mono ?_; rintro e w1 ⟨rfl, hb1⟩)
    | (with_reducible refine wpList_alloc_z rfl _ rfl (blkA zblk) HZ.out ?_)
    | ((with_reducible refine wpList_store_new rfl _ _ _ rfl _ rfl (blkA (ofL l)) rfl ?_ hs2.out HI.out HO.out ?_); · simp))
  have hrow : Hid ((w1.alloc (.cells (blkA (ofL l)) 24)).heap[w1.heap.size]? = some (.cells (blkA (ofL l)) 24 (0, 0))) := heap_alloc_new _ _
  generalize ofL l = m at *
  go_loop [4, 5] (fun v i => ∃ k : Nat, k ≤ 512 ∧ i = .int .i64 k ∧ v = .bool ((m.take k).all (· == 0))) (fun _ i => 512 - (intOf i).toNat)
  case atStart => exact ⟨0, by omega, rfl, rfl⟩
  case round =>
    obtain ⟨k, hk, rfl, rfl⟩ := hrel
    by_cases hlt : k < 512
    · have hc : (w1.alloc (.cells (blkA m) 24)).cell? ⟨w1.heap.size, k, none⟩ = some (.int .u8 ((m.getD k 0).toNat : Int)) := by
        rw [cell_of_row _ _ _ _ _ _ hrow.out, blkA_at m k (by rw [HM.out]; exact hlt)]
      have ht := all_take m k (by rw [HM.out]; exact hlt)
      generalize m.getD k 0 = g at hc ht
      generalize (m.take k).all (· == 0) = v at *
      by_cases h0 : g = 0
      · have hb : ((g.toNat : Int) != 0) = false := by subst h0; rfl
        have ht2 : (m.take (k + 1)).all (· == 0) = v := by rw [ht, h0]; simp
        have HT := Lib.hid ht2; clear ht ht2 h0
        go_wp2
        go_round
        case rel => exact ⟨k + 1, by omega, by go_num, by rw [HT.out]⟩
        case measure => simp [intOf]; omega
      · have hb : ((g.toNat : Int) != 0) = true := by rw [bne_iff_ne]; intro h; exact h0 (UInt8.toNat_inj.1 (by simpa using (by omega : g.toNat = 0)))
        have ht2 : (m.take (k + 1)).all (· == 0) = false := by rw [ht]; simp [h0]
        have HT := Lib.hid ht2; clear ht ht2 h0
        go_wp2
        go_round
        case rel => exact ⟨k + 1, by omega, by go_num, by rw [HT.out]⟩
        case measure => simp [intOf]; omega
    · obtain rfl : k = 512 := by omega
      have he : (m.take 512).all (· == 0) = decide (m = zblk) := by rw [List.take_of_length_le (by rw [HM.out]; exact Nat.le_refl _), all_zblk m HM.out]
      rw [he]
      have hzz : decide (zblk = zblk) = true := dec_t rfl
      have HZZ := Lib.hid hzz; clear hzz he
      generalize hr : decide (m = zblk) = r
      have HR := Lib.hid hr; clear hr
      go_wp2_with (first
        | (with_reducible refine wpList_build_z rfl _ rfl _ buildBlk ?_)
        | (with_reducible refine wpList_load_row rfl 24 _ rfl w1.heap.size rfl 24 (blkA m) (0, 0) _ hrow.out Try.underlying24 rfl HI.out ?_)
        | (go_at_call 14; (with_reducible refine (Zero_any zblk zblk_len _).mono ?_); rintro e w2 ⟨rfl, hb2⟩; rw [HZZ.out]))
      have hrow2 : w2.heap[w1.heap.size]? = some (.cells (blkA m) 24 (0, 0)) := (hb2.block _ (by simp)).trans hrow.out
      refine wp_load_row _ _ rfl w1.heap.size rfl 24 (blkA m) (0, 0) _ hrow2 Try.underlying24 rfl HI.out ?_
      go_wp2_with (go_at_call 14; (with_reducible refine (Zero_any m HM.out _).mono ?_); rintro e w3 ⟨rfl, hb3⟩; rw [HR.out])
      go_ret
      exact ⟨ret_bool (by simp), Below.seq (Below.seq (Below.seq hb1 ((Below.refl _ _).alloc (Nat.le_refl _) _)) hb2) hb3⟩
end Go.Proofs.Ytlmenpfglcigcaa
