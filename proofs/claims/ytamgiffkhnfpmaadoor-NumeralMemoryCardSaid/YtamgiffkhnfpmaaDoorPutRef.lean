/-
  PutRef: the reference's PutOctal, and PutBase256 of both.
-/
import Derived.Test.YtamgiffkhnfpmaaDoorPutWalk
namespace Go.Proofs.YtamgiffkhnfpmaaDoor
open Go.ChangeShapes Go.WideShapes Go.ChangeAt Go.RowKit
theorem infoU8a : (Tryd.prog.info? 5).map (fun i => (i.zero, i.size, i.bytes)) = some (some (.int .u8 0), 1, 1) := by kernel_rfl
theorem putRes_row {w w' : World} {l : List UInt8} {n : Nat} (h : RowAt w 5 l w') (hn : l.length = n) (h64 : n ≤ 64) : PutResF w (l, 0) (.returned (.tuple #[.slice (some ⟨w.heap.size, 0, none⟩) n n, .int .i64 0])) w' := by
  subst hn
  refine ⟨_, _, _, rfl, h.bs (by unfold maxLen; omega), h.bel, Nat.le_refl _, by unfold maxLen; omega, .inr ⟨_, rfl, Nat.le_refl _, (Array.getElem?_eq_some_iff.1 h.row).1, fun k hk => ⟨?_, h.froz k⟩⟩⟩
  rw [h.cell k hk]; rfl
theorem u64div (u k : Nat) : u / 8 ^ k / 8 = u / 8 ^ (k + 1) := by rw [Nat.pow_succ, ← Nat.div_div_eq_div_mul]
set_option maxRecDepth 100000 in
set_option maxHeartbeats 1600000 in
theorem RefPutOctal_any (v n : Int) (w : World) (v0 : -9223372036854775808 ≤ v) (v1 : v ≤ 9223372036854775807) (n0 : -9223372036854775808 ≤ n) (n1 : n ≤ 9223372036854775807) :
    Calls Tryd.prog 11 #[.int .i64 v, .int .i64 n] w (PutRes w (Plain.putOctal v n)) := by
  by_cases h : n < 2 ∨ 64 < n
  · have e : Plain.putOctal v n = ([], 12) := if_pos h
    rw [e]; clear e
    rcases h with h | h
    all_goals
      go_enter Tryd.func11, Tryd.ntmps11
      go_wp2
      all_goals
        go_ret2
        exact PutRes.nil _ (Below.refl _ _)
  · by_cases hneg : v < 0
    · have e : Plain.putOctal v n = ([], 11) := by unfold Plain.putOctal; rw [if_neg h, if_pos hneg]
      rw [e]; clear e
      have h2 : ¬ n < 2 := by omega
      have h64 : ¬ 64 < n := by omega
      clear h
      go_enter Tryd.func11, Tryd.ntmps11
      go_wp2
      go_ret2
      exact PutRes.nil _ (Below.refl _ _)
    · obtain ⟨u, rfl⟩ := Int.eq_ofNat_of_zero_le (by omega : 0 ≤ v)
      obtain ⟨m, rfl⟩ := Int.eq_ofNat_of_zero_le (by omega : 0 ≤ n)
      have hm2 : 2 ≤ m := by omega
      have hm64 : m ≤ 64 := by omega
      have e : Plain.putOctal u m = if u < 8 ^ (m - 1) then (octRow u (m - 1) ++ [0], 0) else ([], 11) := by
        unfold Plain.putOctal; rw [if_neg h, if_neg hneg]; rfl
      generalize Plain.putOctal u m = r at *
      have HE := Lib.hid e
      have hr0 : RowAt w 5 (fillRow 0 (octDig u) (m - 1) 0 [0]) (w.alloc (.cells (rowA (List.replicate m 0)) 5)) := by
        rw [fillRow_zero, show List.replicate (m - 1) (0 : UInt8) ++ [0] = List.replicate m 0 by rw [← List.replicate_succ', show m - 1 + 1 = m by omega]]
        exact RowAt.new w _ _
      have HR0 := Lib.hid hr0
      clear e h hr0
      generalize hz : List.replicate m (0 : UInt8) = z at HR0
      have HZ := Lib.hid hz; clear hz
      go_enter Tryd.func11, Tryd.ntmps11
      go_wp2_with (at_make; (with_reducible refine wpList_make_bytes rfl _ _ _ rfl Tryd.underlying23 infoU8a m rfl rfl (by omega) ?_); rw [HZ.out])
      go_loopw [0, 7] (fun x i wr => ∃ k : Nat, k ≤ m - 1 ∧ x = .int .i64 ((u / 8 ^ k : Nat) : Int) ∧ i = .int .i64 ((m : Int) - 2 - k) ∧ RowAt w 5 (fillRow 0 (octDig u) (m - 1) k [0]) wr) (fun _ i _ => (intOf i + 1).toNat)
      case atStart => exact ⟨0, by omega, by rw [Nat.pow_zero, Nat.div_one], by go_num, HR0.out⟩
      case round =>
        obtain ⟨k, hk, rfl, rfl, hD⟩ := hrel
        by_cases hlt : k < m - 1
        · have hnext := u64div u k
          have hdig := octDig_val u k
          have hset := fillRow_set 0 (octDig u) (m - 1) k [0] hlt
          have hle : u / 8 ^ k ≤ u := Nat.div_le_self _ _
          obtain ⟨j, hj⟩ : ∃ j : Nat, (m : Int) - 2 - k = (j : Int) := ⟨m - 2 - k, by omega⟩
          have hjk : m - 1 - 1 - k = j := by omega
          have hD2 := hD.set j (octDig u k)
          rw [← hjk, hset, hjk] at hD2
          have hcell := hD.cell j (by rw [fillRow_len _ _ _ _ _ (by omega)]; simp; omega)
          have hfz := hD.froz j
          have hjm : (j : Int) < m := by omega
          generalize hU : u / 8 ^ (k + 1) = U' at *
          generalize u / 8 ^ k = U at *
          generalize octDig u k = B at *
          have hval : 48 + (U : Int) % 8 = (B.toNat : Int) := by omega
          have HN := Lib.hid hnext; have HD2 := Lib.hid hD2; have HU := Lib.hid hU
          clear hU hnext hdig hset hD hD2
          go_wp2
          exact ⟨⟨k + 1, by omega, by rw [HU.out, ← HN.out]; go_num, by go_num, HD2.out⟩, by simp [intOf]; omega⟩
        · obtain rfl : k = m - 1 := by omega
          have hi : (m : Int) - 2 - ((m - 1 : Nat) : Int) < 0 := by omega
          have he := HE.out
          have hfull := fillRow_full 0 (octDig u) (m - 1) [0]
          rw [hfull] at hD
          have hl : (placeRow (octDig u) (m - 1) ++ [0]).length = m := by rw [List.length_append, placeRow_len]; simp; omega
          have hdz : u / 8 ^ (m - 1) = 0 ↔ u < 8 ^ (m - 1) := by
            rw [Nat.div_eq_zero_iff]
            have : 8 ^ (m - 1) ≠ 0 := Nat.pos_iff_ne_zero.1 (Nat.pow_pos (by decide))
            omega
          have HD := Lib.hid hD; have HLL := Lib.hid hl; have HB := Lib.hid hD.bel
          clear hfull hl hD
          by_cases hlt2 : u < 8 ^ (m - 1)
          · rw [if_pos hlt2] at he
            subst he
            rw [hdz.2 hlt2]
            clear hdz hlt2 hlt hk
            go_wp2
            go_ret2
            exact (putRes_row HD.out HLL.out hm64).res
          · rw [if_neg hlt2] at he
            subst he
            have hne : (((u / 8 ^ (m - 1) : Nat) : Int) != 0) = true := by
              rw [bne_iff_ne]; intro h; exact hlt2 (hdz.1 (by omega))
            generalize u / 8 ^ (m - 1) = U at *
            clear hdz hlt2 hlt hk
            go_wp2
            go_ret2
            exact PutRes.nil _ HB.out
end Go.Proofs.YtamgiffkhnfpmaaDoor
