/-
  LawSeal: the law BlockSeals, walked.
-/
import Derived.Test.YtccochopiaojnaaDoorSealMake
namespace Go.Proofs.YtccochopiaojnaaDoor
open Go.ChangeShapes Go.WideShapes Go.ChangeAt Go.RowKit
theorem zeroRow : Tryd.zeroCells44 = rowA zblk := by kernel_rfl
theorem zsealed : Plain.sealed zblk = false := by decide +kernel
/-- one byte of the block turned -/
theorem seal_by (l : List UInt8) (hl : l.length = 512) (hs : Plain.sum uby l = Plain.sum sby l) (p : Nat) (b c : UInt8) (hp : p < 512) (hf : p < 148 ∨ 156 ≤ p) (h0 : b.toNat ≠ 0) (hb : b.toNat < 128) (hc1 : c.toNat < 128)
    (hc : (c.toNat : Int) = (((Plain.seal l).getD p 0).toNat + b.toNat : Int) % 256) : Plain.sealed ((Plain.seal l).set p c) = false := by
  have h2 : Plain.sum uby (Plain.seal l) = Plain.sum sby (Plain.seal l) := by rw [seal_sum uby l hl, seal_sum sby l hl]; exact hs
  have hlow := sums_low (Plain.seal l) h2 p (by rw [seal_len l hl]; exact hp) hf
  exact seal_turned l hl hs p b.toNat hp hf (by omega) hb c (by omega) hc1
set_option maxRecDepth 100000 in
set_option maxHeartbeats 3200000 in
theorem BlockSeals_walk (a : Option Addr) (n c : Nat) (l : List UInt8) (pl : Int) (by' : UInt8) (w : World) (ev : Value) (hE : ErrIs w ev) (hT : Bru w) (h : Bs w a n c l) (hc : c ≤ 140737488351232) (p0 : -9223372036854775808 ≤ pl) (p1 : pl < 9223372036854775808) :
    Calls Tryd.prog 13 #[.slice a n c, .int .i64 pl, .int .u8 (by'.toNat : Int)] w fun e w' => e = .returned (.bool true) ∧ Below w.heap.size w w' := by
  have hql := ofL_len l
  have HO := Lib.hid (Of_any a n c l w h)
  generalize ofL l = q at *
  have hzl := seal_len q hql
  have hzs := seal_sealed q hql
  have hby := seal_by q hql
  have hs1 := seal_sum uby q hql
  have hs2 := seal_sum sby q hql
  have C1 : Hid (∀ w, Bru w → Calls Tryd.prog 41 #[.agg (rowA q)] w fun e w' => e = .returned (.agg (rowA (Plain.seal q))) ∧ Below w.heap.size w w') := fun w h => Seal_any q hql w h
  generalize Plain.sum uby q = U at *
  generalize Plain.sum sby q = V at *
  generalize Plain.seal q = z at *
  have C2 : Hid (∀ w, ErrIs w ev → Calls Tryd.prog 39 #[.agg (rowA z)] w fun e w' => e = .returned (.bool true) ∧ Below w.heap.size w w') := fun w h => (Sealed_any z hzl w ev h).mono fun e w' ⟨he, hb⟩ => ⟨by rw [he, hzs], hb⟩
  have C3 : Hid (∀ w, ErrIs w ev → Calls Tryd.prog 39 #[.agg Tryd.zeroCells44] w fun e w' => e = .returned (.bool false) ∧ Below w.heap.size w w') := fun w h => by rw [zeroRow]; exact (Sealed_any zblk zblk_len w ev h).mono fun e w' ⟨he, hb⟩ => ⟨by rw [he, zsealed], hb⟩
  have C4 : Hid (∀ w, Calls Tryd.prog 36 #[.agg (rowA z)] w fun e w' => e = .returned (.tuple #[.int .i64 U, .int .i64 V]) ∧ Below w.heap.size w w') := fun w => (Sums_any z hzl w).mono fun e w' ⟨he, hb⟩ => ⟨by rw [he, hs1, hs2], hb⟩
  have HI := Lib.hid (sizeBlk z hzl); have HOZ := Lib.hid (rowA_one z); have HZB := Lib.hid zeroBlk
  have hszz : Hid ((rowA zblk).size = (rowA z).size) := by show _ = _; rw [rowA_size, rowA_size, zblk_len, hzl]
  have HE := Lib.hid hE; have HT := Lib.hid hT; have HZL := Lib.hid hzl; have HBY := Lib.hid hby
  clear h hql hzs hby hs1 hs2 hE hT hzl
  go_enter Tryd.func13, Tryd.ntmps13
  go_upto_region 2 with (first
    | (go_at_call 37; (with_reducible refine (HO.out).mono ?_); rintro e w1 ⟨rfl, hb1⟩; have HB1 := Lib.hid hb1; clear hb1)
    | (go_at_call 41; (refine (C1.out w1 (by exact HT.out.below HB1.out)).mono ?_); rintro e w2 ⟨rfl, hb2⟩; have HB2 := Lib.hid (Below.seq HB1.out hb2); clear hb2)
    | (with_reducible refine wpList_alloc_z rfl _ rfl (rowA zblk) HZB.out ?_)
    | ((with_reducible refine wpList_store_new rfl _ _ _ rfl _ rfl (rowA z) rfl rfl hszz.out HI.out HOZ.out ?_)))
  have hR := RowAt.new w2 44 z
  generalize w2.alloc (.cells (rowA z) 44) = w4 at *
  have HB4 := Lib.hid (Below.seq HB2.out hR.bel)
  have HR4 := Lib.hid hR; have H4 := Lib.hid hR.row; clear hR
  go_upto_region 5 with (first
    | (with_reducible refine wpList_load_row rfl _ _ rfl w2.heap.size rfl 44 (rowA z) (0, 0) _ H4.out Tryd.underlying44 rfl HI.out ?_)
    | (go_at_call 39; (with_reducible refine (C2.out _ (HE.out.below HB4.out)).mono ?_); rintro e w5 ⟨rfl, hb5⟩; have HR5 := Lib.hid (HR4.out.keep hb5); have HB5 := Lib.hid (Below.seq HB4.out hb5); clear hb5)
    | (with_reducible refine wpList_build_z rfl _ rfl _ buildBlk ?_)
    | (go_at_call 39; (with_reducible refine (C3.out _ (HE.out.below HB5.out)).mono ?_); rintro e w6 ⟨rfl, hb6⟩; have HR6 := Lib.hid (HR5.out.keep hb6); have H6 := Lib.hid HR6.out.row; have HB6 := Lib.hid (Below.seq HB5.out hb6); clear hb6)
    | (with_reducible refine wpList_load_row rfl _ _ rfl w2.heap.size rfl 44 (rowA z) (0, 0) _ H6.out Tryd.underlying44 rfl HI.out ?_)
    | (go_at_call 36; (with_reducible refine (C4.out _).mono ?_); rintro e w7 ⟨rfl, hb7⟩; have HR7 := Lib.hid (HR6.out.keep hb7); have H7 := Lib.hid HR7.out.row; have HB7 := Lib.hid (Below.seq HB6.out hb7); clear hb7))
  by_cases hUV : U = V
  · subst hUV
    have hn0 : (U != U) = false := by simp
    by_cases hin : 0 ≤ pl ∧ pl ≤ 511 ∧ (pl < 148 ∨ 156 ≤ pl) ∧ by'.toNat ≠ 0
    · obtain ⟨i1, i2, i3, i4⟩ := hin
      obtain ⟨p, rfl⟩ := Int.eq_ofNat_of_zero_le i1
      have HBYP := Lib.hid (HBY.out rfl p by')
      obtain ⟨C, hC⟩ : ∃ C : UInt8, (C.toNat : Int) = (((z.getD p 0).toNat : Int) + (by'.toNat : Int)) % 256 := by
        refine ⟨UInt8.ofNat (((z.getD p 0).toNat + by'.toNat) % 256), ?_⟩
        rw [UInt8.toNat_ofNat']; omega
      have hzp : (z.set p C).length = 512 := by rw [List.length_set]; exact HZL.out
      have hbad : by'.toNat < 128 → C.toNat < 128 → Plain.sealed (z.set p C) = false := fun h1 h2 => HBYP.out C (by omega) (by omega) i4 h1 h2 hC
      have C5 : Hid (by'.toNat < 128 → C.toNat < 128 → ∀ w, ErrIs w ev → Calls Tryd.prog 39 #[.agg (rowA (z.set p C))] w fun e w' => e = .returned (.bool false) ∧ Below w.heap.size w w') := fun h1 h2 w h => (Sealed_any (z.set p C) hzp w ev h).mono fun e w' ⟨he, hb⟩ => ⟨by rw [he, hbad h1 h2], hb⟩
      have HIC := Lib.hid (sizeBlk (z.set p C) hzp)
      have hR8 := RowAt.new w7 44 z
      have hc8 := hR8.cell p (by rw [HZL.out]; omega)
      have hf8 := hR8.froz p
      have hR9 := hR8.set p C
      have hc9 := hR9.cell p (by rw [hzp]; omega)
      have hgp : (z.set p C).getD p 0 = C := by
        have : p < z.length := by rw [HZL.out]; omega
        simp [List.getD, this]
      rw [hgp] at hc9
      generalize hw8 : w7.alloc (.cells (rowA z) 44) = w8 at *
      have HW8 := Lib.hid hw8
      have HB9 := Lib.hid (Below.seq HB7.out hR9.bel); have H9 := Lib.hid hR9.row
      have hsum : (((z.getD p 0).toNat : Int) + (by'.toNat : Int)) % 256 = (C.toNat : Int) := hC.symm
      have x1 := u8_lt (z.getD p 0)
      have x2 := u8_lt by'
      have x3 := u8_lt C
      have hne0 : ((by'.toNat : Int) == 0) = false := by rw [beq_eq_false_iff_ne]; omega
      have hpl1 : ¬ (p : Int) < 0 := by omega
      have hpl2 : ¬ (511 : Int) < p := by omega
      have hp5 : (p : Int) < 512 := by omega
      generalize ((z.getD p 0).toNat : Int) = X at *
      clear hR8 hR9 hgp hbad hC hzp hw8 HBYP
      have hpl3 : (¬ (148 : Int) ≤ p) ∨ ((148 : Int) ≤ p ∧ ¬ (p : Int) < 156) := by omega
      clear i1 i2 i3 i4
      rcases hpl3 with hf1 | ⟨hf1, hf2⟩
      all_goals
        by_cases hc128 : (128 : Int) ≤ C.toNat
        · go_wp2_with (first
            | (with_reducible refine wpList_load_row rfl _ _ rfl w2.heap.size rfl 44 (rowA z) (0, 0) _ H7.out Tryd.underlying44 rfl HI.out ?_)
            | (with_reducible refine wpList_alloc_z rfl _ rfl (rowA zblk) HZB.out ?_)
            | ((with_reducible refine wpList_store_new rfl _ _ _ rfl _ rfl (rowA z) rfl rfl hszz.out HI.out HOZ.out ?_); rw [HW8.out]))
          go_ret
          exact ⟨rfl, HB9.out⟩
        · by_cases hb128 : (128 : Int) ≤ by'.toNat
          · go_wp2_with (first
              | (with_reducible refine wpList_load_row rfl _ _ rfl w2.heap.size rfl 44 (rowA z) (0, 0) _ H7.out Tryd.underlying44 rfl HI.out ?_)
              | (with_reducible refine wpList_alloc_z rfl _ rfl (rowA zblk) HZB.out ?_)
              | ((with_reducible refine wpList_store_new rfl _ _ _ rfl _ rfl (rowA z) rfl rfl hszz.out HI.out HOZ.out ?_); rw [HW8.out]))
            go_ret
            exact ⟨rfl, HB9.out⟩
          · have C6 := Lib.hid (C5.out (by omega) (by omega))
            go_wp2_with (first
              | (with_reducible refine wpList_load_row rfl _ _ rfl w2.heap.size rfl 44 (rowA z) (0, 0) _ H7.out Tryd.underlying44 rfl HI.out ?_)
              | (with_reducible refine wpList_alloc_z rfl _ rfl (rowA zblk) HZB.out ?_)
              | ((with_reducible refine wpList_store_new rfl _ _ _ rfl _ rfl (rowA z) rfl rfl hszz.out HI.out HOZ.out ?_); rw [HW8.out])
              | (with_reducible refine wpList_load_row rfl _ _ rfl w7.heap.size rfl 44 (rowA (z.set p C)) (0, 0) _ H9.out Tryd.underlying44 rfl HIC.out ?_)
              | (go_at_call 39; (refine (C6.out _ (by exact HE.out.below HB9.out)).mono ?_); rintro e w10 ⟨rfl, hb10⟩; have HB10 := Lib.hid (Below.seq HB9.out hb10); clear hb10))
            go_ret
            exact ⟨rfl, HB10.out⟩
    · have hout : pl < 0 ∨ (¬ pl < 0 ∧ 511 < pl) ∨ (¬ pl < 0 ∧ ¬ 511 < pl ∧ 148 ≤ pl ∧ pl < 156) ∨ (¬ pl < 0 ∧ ¬ 511 < pl ∧ ¬ (148 : Int) ≤ pl ∧ ((by'.toNat : Int) == 0) = true) ∨ (¬ pl < 0 ∧ ¬ 511 < pl ∧ (148 : Int) ≤ pl ∧ ¬ pl < 156 ∧ ((by'.toNat : Int) == 0) = true) := by
        have h0 : by'.toNat = 0 ↔ ((by'.toNat : Int) == 0) = true := by rw [beq_iff_eq]; omega
        rw [← h0]
        omega
      clear hin
      rcases hout with h1 | ⟨h1, h2⟩ | ⟨h1, h2, h3, h4⟩ | ⟨h1, h2, h3, h4⟩ | ⟨h1, h2, h3, h4, h5⟩
      all_goals
        go_wp2
        go_ret
        exact ⟨rfl, HB7.out⟩
  · have hn0 : (U != V) = true := by rw [bne_iff_ne]; exact hUV
    clear hUV
    go_wp2
    go_ret
    exact ⟨rfl, HB7.out⟩
end Go.Proofs.YtccochopiaojnaaDoor
