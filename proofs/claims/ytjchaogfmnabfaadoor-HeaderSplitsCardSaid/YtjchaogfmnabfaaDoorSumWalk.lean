/-
  SumWalk: block.Sums and the reference's.
-/
import Derived.Test.YtjchaogfmnabfaaDoorBlock
import Derived.Test.YtjchaogfmnabfaaDoorSumLaw
namespace Go.Proofs.YtjchaogfmnabfaaDoor
open Go.ChangeShapes Go.WideShapes Go.ChangeAt Go.RowKit
section
variable {P : Program} {ops : Array Oper} {rest : List Oper} {o : Oper} {a : Act} {w : World} {Q : Exit → Act → World → Prop}
/-- x[k] of an array of bytes by value -/
theorem wpList_index_row (hgd : o.guard = none) (t : TypeId) (y x : Operand) (ho : o.op = .index t y x) {e : TypeId} {n : Nat} (ht : P.underlying t = some (.array n e)) (he : P.underlying e = some (.int .u8)) (hsz : (P.info? e).map (·.size) = some 1) (l : List UInt8) (hl : l.length = n) (hy : a.eval y = .agg (rowA l)) {k : IntKind} (d : Nat) (hx : a.eval x = .int k (d : Int)) (hd : d < n)
    (h : wpList P ops Q rest (a.put o.dst (.int .u8 ((l.getD d 0).toNat : Int))) w) : wpList P ops Q (o :: rest) a w := by
  refine wpList_value hgd _ _ ?_ h
  have hg : (rowA l)[d]? = some (.int .u8 ((l.getD d 0).toNat : Int)) := rowA_at l d (by omega)
  have hlt : d < (rowA l).size := by rw [rowA_size]; omega
  have hpart := part_u8 (P := P) (w := w) he l d (by omega)
  have hdi : (d : Int) < (n : Int) := by omega
  have hr : (Instr.index t (.agg (rowA l)) (.int k (d : Int))).run P w = .ok (.int .u8 ((l.getD d 0).toNat : Int)) w := by
    simp only [rowA] at *
    obtain ⟨i, hi', hs'⟩ := Option.map_eq_some_iff.1 hsz
    simp [Instr.index, run_underlying ht, asIntOf, Result.andThen, hd, hdi, sizeOf, typeInfo, hi', hs', hpart]
  simp [execOp, ho, hy, hx, hr, Result.andThen]
end
theorem sum_vals (l : List UInt8) (hl : l.length = 512) : (-200000 ≤ Plain.sum uby l ∧ Plain.sum uby l ≤ 200000) ∧ (-200000 ≤ Plain.sum sby l ∧ Plain.sum sby l ≤ 200000) := ⟨sum_bd uby uby_wide l hl, sum_bd sby sby_wide l hl⟩
theorem i8_sby (b : UInt8) : IntKind.i8.wrap (b.toNat : Int) = sby b := by
  unfold sby
  have := u8_lt b
  simp [IntKind.wrap, IntKind.bits, IntKind.signed]
  split <;> split <;> omega
set_option maxRecDepth 100000 in
set_option maxHeartbeats 1600000 in
theorem Sums_any (l : List UInt8) (hl : l.length = 512) (w : World) :
    Calls Tryd.prog 50 #[.agg (rowA l)] w fun e w' => e = .returned (.tuple #[.int .i64 (Plain.sum uby l), .int .i64 (Plain.sum sby l)]) ∧ Below w.heap.size w w' := by
  have HL := Lib.hid hl
  have h0 : RowAt w 47 (blankK l 0) (w.alloc (.cells (rowA l) 47)) := by rw [blankK_zero]; exact RowAt.new w _ _
  have H0 := Lib.hid h0; clear h0 hl
  go_enter Tryd.func50, Tryd.ntmps50
  go_wp2_with (with_reducible refine wpList_box_agg rfl _ _ rfl (rowA l) rfl ?_)
  go_loopw [4] (fun i wr => ∃ k : Nat, k ≤ 8 ∧ i = .int .i64 (148 + (k : Int)) ∧ RowAt w 47 (blankK l k) wr) (fun i _ => 156 - (intOf i).toNat)
  case atStart => exact ⟨0, by omega, by go_num, H0.out⟩
  case round =>
    obtain ⟨k, hk, rfl, hD⟩ := hrel
    have hlen := blankK_len l k (by rw [HL.out]; omega)
    by_cases hlt : k < 8
    · have hset := blankK_set l k (by rw [HL.out]; omega)
      obtain ⟨j, hj⟩ : ∃ j : Nat, 148 + (k : Int) = (j : Int) := ⟨148 + k, by omega⟩
      have hjk : 148 + k = j := by omega
      have hcell := hD.cell j (by rw [hlen, HL.out]; omega)
      have hfz := hD.froz j
      have hD2 := hD.set j 32
      rw [← hjk, hset, hjk] at hD2
      have HD2 := Lib.hid hD2
      have hj5 : (j : Int) < 512 := by omega
      have hj6 : (j : Int) < 156 := by omega
      clear hset hD hD2 hlen
      go_wp2
      exact ⟨⟨k + 1, by omega, by go_num, HD2.out⟩, by simp [intOf]; omega⟩
    · obtain rfl : k = 8 := by omega
      have hrow := hD.row
      have hbel := hD.bel
      have hbl : blankK l 8 = blank l := rfl
      rw [hbl] at hrow hlen
      have hs1 := blank_sum uby l
      have hs2 := blank_sum sby l
      have hll : (blank l).length = 512 := by rw [hlen]; exact HL.out
      have HI := Lib.hid (sizeBlk (blank l) hll)
      have HROW := Lib.hid hrow; have HLL := Lib.hid hll; have HS1 := Lib.hid hs1; have HS2 := Lib.hid hs2
      clear hrow hll hs1 hs2 hlen hbl hD
      generalize blank l = m at *
      have hi : ¬ (148 + ((8 : Nat) : Int)) < 156 := by omega
      go_wp2_with (with_reducible refine wpList_load_row rfl _ _ rfl w.heap.size rfl 47 (rowA m) (0, 0) _ HROW.out Tryd.underlying47 rfl HI.out ?_)
      go_loop [16, 5, 6] (fun i u s => ∃ k : Nat, k ≤ 512 ∧ i = .int .i64 k ∧ u = .int .i64 (sumB uby (m.take k)) ∧ s = .int .i64 (sumB sby (m.take k))) (fun i _ _ => 512 - (intOf i).toNat)
      case atStart => exact ⟨0, by omega, rfl, rfl, rfl⟩
      case round =>
        obtain ⟨k, hk, rfl, rfl, rfl⟩ := hrel
        by_cases hlt : k < 512
        · have hu := sumB_step uby m k (by rw [HLL.out]; exact hlt)
          have hs := sumB_step sby m k (by rw [HLL.out]; exact hlt)
          have b1 := sumTake_bd uby uby_wide m k (by omega)
          have b2 := sumTake_bd sby sby_wide m k (by omega)
          have hw := i8_sby (m.getD k 0)
          have c1 := uby_bd (m.getD k 0)
          have c2 := sby_bd (m.getD k 0)
          have hub : uby (m.getD k 0) = ((m.getD k 0).toNat : Int) := rfl
          rw [hub] at hu c1
          generalize hUU : sumB uby (m.take (k + 1)) = U' at *
          generalize hVV : sumB sby (m.take (k + 1)) = S' at *
          generalize sumB uby (m.take k) = U at *
          generalize sumB sby (m.take k) = S at *
          have hkk : (k : Int) < 512 := by omega
          obtain ⟨b11, b12⟩ := b1; obtain ⟨b21, b22⟩ := b2; obtain ⟨c11, c12⟩ := c1; obtain ⟨c21, c22⟩ := c2
          generalize hX : ((m.getD k 0).toNat : Int) = X at *
          generalize sby (m.getD k 0) = Y at *
          have HU := Lib.hid (hUU.trans hu); have HSS := Lib.hid (hVV.trans hs); have HX := Lib.hid hX
          clear hUU hVV hu hs hub hX
          go_wp2_with (refine wpList_index_row rfl _ _ _ rfl Tryd.underlying47 Tryd.underlying5 (by kernel_rfl) m HLL.out rfl k rfl hlt ?_; rw [HX.out])
          go_round
          case rel => exact ⟨k + 1, by omega, by go_num, by rw [HU.out], by rw [HSS.out]⟩
          case measure => simp [intOf]; omega
        · obtain rfl : k = 512 := by omega
          have e : m.take 512 = m := List.take_of_length_le (by rw [HLL.out]; exact Nat.le_refl _)
          rw [e]
          have hkk : ¬ (512 : Int) < 512 := by omega
          go_wp2
          go_ret2
          exact ⟨by rw [HS1.out, HS2.out]; rfl, hbel⟩
set_option maxRecDepth 100000 in
set_option maxHeartbeats 1600000 in
theorem RefSums_any (l : List UInt8) (hl : l.length = 512) (w : World) :
    Calls Tryd.prog 68 #[.agg (rowA l)] w fun e w' => e = .returned (.tuple #[.int .i64 (Plain.sum uby l), .int .i64 (Plain.sum sby l)]) ∧ Below w.heap.size w w' := by
  have he1 := sumTo_end uby l hl
  have he2 := sumTo_end sby l hl
  have HL := Lib.hid hl; have HE1 := Lib.hid he1; have HE2 := Lib.hid he2
  have HR := Lib.hid (RowAt.new w 47 l)
  have hz1 : Plain.sumTo uby l 0 = 256 := by rw [sumTo_zero]; rfl
  have hz2 : Plain.sumTo sby l 0 = 256 := by rw [sumTo_zero]; rfl
  have HZ1 := Lib.hid hz1; have HZ2 := Lib.hid hz2
  clear hl he1 he2 hz1 hz2
  go_enter Tryd.func68, Tryd.ntmps68
  go_wp2_with (with_reducible refine wpList_box_agg rfl _ _ rfl (rowA l) rfl ?_)
  have hR := HR.out
  generalize w.alloc (.cells (rowA l) 47) = wa at *
  have hbel := hR.bel
  have HRR := Lib.hid hR; clear hR HR
  go_loop [4, 5, 6] (fun u s i => ∃ k : Nat, k ≤ 512 ∧ i = .int .i64 k ∧ u = .int .i64 (Plain.sumTo uby l k) ∧ s = .int .i64 (Plain.sumTo sby l k)) (fun _ _ i => 512 - (intOf i).toNat)
  case atStart => exact ⟨0, by omega, rfl, by rw [HZ1.out], by rw [HZ2.out]⟩
  case round =>
    obtain ⟨k, hk, rfl, rfl, rfl⟩ := hrel
    by_cases hlt : k < 512
    · have b1 := sumTo_bd uby uby_wide l k (by omega)
      have b2 := sumTo_bd sby sby_wide l k (by omega)
      have hkk : (k : Int) < 512 := by omega
      by_cases hf : 148 ≤ k ∧ k < 156
      · have hu := sumTo_skip uby l k hf.1 hf.2
        have hs := sumTo_skip sby l k hf.1 hf.2
        generalize hUU : Plain.sumTo uby l (k + 1) = U' at *
        generalize hVV : Plain.sumTo sby l (k + 1) = S' at *
        generalize Plain.sumTo uby l k = U at *
        generalize Plain.sumTo sby l k = S at *
        have f1 : (148 : Int) ≤ k := by omega
        have f2 : (k : Int) ≤ 155 := by omega
        have HU := Lib.hid (hUU.trans hu); have HSS := Lib.hid (hVV.trans hs)
        clear hUU hVV hu hs hf
        go_wp2
        go_round
        case rel => exact ⟨k + 1, by omega, by go_num, by rw [HU.out], by rw [HSS.out]⟩
        case measure => simp [intOf]; omega
      · have hu := sumTo_step uby l k (by rw [HL.out]; exact hlt) (by omega)
        have hs := sumTo_step sby l k (by rw [HL.out]; exact hlt) (by omega)
        have hcell := HRR.out.cell k (by rw [HL.out]; exact hlt)
        have c1 := uby_bd (l.getD k 0)
        have hub : uby (l.getD k 0) = ((l.getD k 0).toNat : Int) := rfl
        have hsb : sby (l.getD k 0) = if (l.getD k 0).toNat < 128 then ((l.getD k 0).toNat : Int) else ((l.getD k 0).toNat : Int) - 256 := rfl
        rw [hub] at hu c1
        generalize hUU : Plain.sumTo uby l (k + 1) = U' at *
        generalize hVV : Plain.sumTo sby l (k + 1) = S' at *
        generalize Plain.sumTo uby l k = U at *
        generalize Plain.sumTo sby l k = S at *
        obtain ⟨b11, b12⟩ := b1; obtain ⟨b21, b22⟩ := b2; obtain ⟨c11, c12⟩ := c1
        have hway : ((k : Int) < 148) ∨ ((148 : Int) ≤ k ∧ (155 : Int) < k) := by omega
        by_cases h8 : (l.getD k 0).toNat < 128
        · rw [if_pos h8] at hsb
          rw [hsb] at hs
          have h8i : ((l.getD k 0).toNat : Int) < 128 := by omega
          generalize ((l.getD k 0).toNat : Int) = X at *
          have HU := Lib.hid (hUU.trans hu); have HSS := Lib.hid (hVV.trans hs)
          clear hUU hVV hu hs hub hsb h8 hf
          rcases hway with f1 | ⟨f1, f2⟩
          all_goals
            go_wp2
            go_round
            case rel => exact ⟨k + 1, by omega, by go_num, by rw [HU.out], by rw [HSS.out]⟩
            case measure => simp [intOf]; omega
        · rw [if_neg h8] at hsb
          rw [hsb] at hs
          have h8i : ¬ ((l.getD k 0).toNat : Int) < 128 := by omega
          generalize ((l.getD k 0).toNat : Int) = X at *
          have HU := Lib.hid (hUU.trans hu); have HSS := Lib.hid (hVV.trans hs)
          clear hUU hVV hu hs hub hsb h8 hf
          rcases hway with f1 | ⟨f1, f2⟩
          all_goals
            go_wp2
            go_round
            case rel => exact ⟨k + 1, by omega, by go_num, by rw [HU.out], by rw [HSS.out]⟩
            case measure => simp [intOf]; omega
    · obtain rfl : k = 512 := by omega
      have hkk : ¬ (512 : Int) < 512 := by omega
      have h1 := HE1.out
      have h2 := HE2.out
      rw [h1, h2]
      clear h1 h2
      go_wp2
      go_ret2
      exact ⟨rfl, hbel⟩
end Go.Proofs.YtjchaogfmnabfaaDoor
