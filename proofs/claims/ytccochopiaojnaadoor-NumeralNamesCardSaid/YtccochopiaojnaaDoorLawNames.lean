/-
  LawNames: the law NumeralNames, walked.
-/
import Derived.Test.YtccochopiaojnaaDoorLawOct
namespace Go.Proofs.YtccochopiaojnaaDoor
open Go.ChangeShapes Go.WideShapes Go.ChangeAt Go.RowKit
def intRow (L : List Int) : Array Value := (L.map (Value.int .i64)).toArray
section
variable {P : Program} {ops : Array Oper} {rest : List Oper} {o : Oper} {a : Act} {w : World} {Q : Exit → Act → World → Prop}
theorem wpList_build_at (hg : o.guard = none) {t : TypeId} {n : Nat} {es : Array (Nat × Operand)} (_ho : o.op = .buildSlice t n es) (v : Value) (w' : World) (h : (execOp a.eval o).run P w = .ok (.value v) w')
    (hk : wpList P ops Q rest (a.put o.dst v) w') : wpList P ops Q (o :: rest) a w := wpList_value hg v w' h hk
end
theorem intRow_isSl (w : World) (e : TypeId) (L : List Int) (n : Nat) (h : L.length = n) (hm : n ≤ maxLen) : IsSl (w.alloc (.cells (intRow L) e)) 1 (some ⟨w.heap.size, 0, none⟩) n n (L.map (Value.int .i64)) := by
  have := isSl_new w e 1 n (intRow L) (by simp [intRow, h]) hm
  simpa [intRow] using this
theorem ints_at {w : World} {a : Option Addr} {n c : Nat} {L : List Int} (h : IsSl w 1 a n c (L.map (Value.int .i64))) (k : Nat) (hk : k < n) : ∃ b off, a = some ⟨b, off, none⟩ ∧ w.cell? ⟨b, off + k, none⟩ = some (.int .i64 (L.getD k 0)) := by
  refine h.2.2.2.1.at k _ ?_
  have hl : L.length = n := by have := h.1; simpa using this
  have : k < L.length := by omega
  simp [List.getD, List.getElem?_eq_getElem this]
def namesA : List Int := [10, 11, 12, 20, 21, 40, 41, 42, 43, 50, 51, 60, 61, 70, 71, 72, 73, 74, 75, 76, 77, 78, 80, 90, 91, 92, 93, 94, 95, 96, 97, 100, 101, 110, 120, 130, 131, 140, 141, 142, 150, 151, 160, 170, 171, 172, 173, 174, 175, 176, 177, 178, 179, 180, 200, 201, 202, 220, 230, 270, 271]
def namesB : List Int := [512, 64, 1099511627776, 64, 4096, 1048576, 255, 64, 2147483647, 4096, 8192, 1099511627776, 4194304, 65536, 1024, 1099511627776, 65536, 65536, 8, 1024, 1000, 1048576]
def namesC : List Int := [1, 2, 3, 4, 5, 1, 2, 1, 2, 1, 4, 1, 13, 15, 1, 7, 1, 3, 3]
theorem bs8 (w : World) : Bs (w.alloc (.cells #[.int .u8 56] 5 (1, 2))) (some ⟨w.heap.size, 0, none⟩) 1 1 [56] :=
  isSl_mark w 5 1 1 #[.int .u8 56] _ rfl (by unfold maxLen; omega)
theorem sl_below {w w' : World} {a : Option Addr} {n c : Nat} {xs : List Value} (k : Below w.heap.size w w') (h : IsSl w 1 a n c xs) : IsSl w' 1 a n c xs := (Below.keeps k).sl h
set_option maxRecDepth 100000 in
set_option maxHeartbeats 3200000 in
theorem NumeralNames_walk (w : World) (ev : Value) (hE : ErrIs w ev) :
    Calls Tryd.prog 5 #[] w fun e w' => e = .returned (.bool true) ∧ Below w.heap.size w w' := by
  have hv : Plain.octal [56] = (0, 10) := by decide +kernel
  have HV := Lib.hid hv; have HE := Lib.hid hE; clear hv hE
  have kc := fun (w : World) (C : Array Value) (n c : Nat) => Lib.run_convert_bytes_const (P := Tryd.prog) w 29 5 C n c Tryd.underlying29 Tryd.underlying5
  have hb := (Below.refl w.heap.size w).alloc (Nat.le_refl _) (.cells #[.int .u8 56] 5 (1, 2))
  have HB := Lib.hid hb; clear hb
  go_enter Tryd.func5, Tryd.ntmps5
  go_upto_region 4 with (first
    | (go_at_call 19; refine (Octal_any _ 1 1 [56] _ ev (by exact bs8 w) (by decide) (by exact HE.out.below HB.out)).mono ?_; rintro e w1 ⟨rfl, hb1⟩; rw [HV.out]; unfold decV; have HB1 := Lib.hid (Below.seq HB.out hb1); clear hb1))
  generalize hA : namesA = LA
  have HA := Lib.hid hA; clear hA
  have hla : LA.length = 61 := by rw [← HA.out]; rfl
  have HLA := Lib.hid hla; clear hla
  go_upto_region 5 with (refine wpList_build_at rfl rfl (.slice (some ⟨w1.heap.size, 0, none⟩) 61 61) (w1.alloc (.cells (intRow LA) 23)) (by rw [← HA.out]; kernel_rfl) ?_)
  have hs1 := intRow_isSl w1 23 LA 61 HLA.out (by unfold maxLen; omega)
  have hb2 := Below.seq HB1.out ((Below.refl w1.heap.size w1).alloc (Nat.le_refl _) (.cells (intRow LA) 23))
  generalize hx1 : (some ⟨w1.heap.size, 0, none⟩ : Option Addr) = x1 at *
  generalize hw2 : w1.alloc (.cells (intRow LA) 23) = w2 at *
  have HS1 := Lib.hid hs1; have HB2 := Lib.hid hb2
  clear hs1 hb2 hx1 hw2
  go_upto_region 6 with (refine wpList_build_at rfl rfl (.slice (some ⟨w2.heap.size, 0, none⟩) 61 61) (w2.alloc (.cells (intRow LA) 3)) (by rw [← HA.out]; kernel_rfl) ?_)
  have hs2 := intRow_isSl w2 3 LA 61 HLA.out (by unfold maxLen; omega)
  have hbk := (Below.refl w2.heap.size w2).alloc (Nat.le_refl _) (.cells (intRow LA) 3)
  have hb3 := Below.seq HB2.out hbk
  have hs1 := sl_below hbk HS1.out
  generalize hx2 : (some ⟨w2.heap.size, 0, none⟩ : Option Addr) = x2 at *
  generalize hw3 : w2.alloc (.cells (intRow LA) 3) = w3 at *
  have HS2 := Lib.hid hs2; have HS1b := Lib.hid hs1; have HB3 := Lib.hid hb3
  clear hs1 hs2 hb3 hx2 hw3 hbk HS1
  go_wp2_with fail
  go_loopw [5] (fun i wr => ∃ k : Nat, k ≤ 61 ∧ i = .int .i64 k ∧ ∃ N, wr = w3.drewN N) (fun i _ => 61 - (intOf i).toNat)
  case atStart => exact ⟨0, by omega, rfl, 0, rfl⟩
  case round =>
    obtain ⟨k, hk, rfl, N, rfl⟩ := hrel
    by_cases hlt : k < 61
    · obtain ⟨b1, o1, rfl, h1⟩ := ints_at HS1b.out k hlt
      obtain ⟨b2, o2, rfl, h2⟩ := ints_at HS2.out k hlt
      generalize LA.getD k 0 = g at *
      have hki : (k : Int) < 61 := by omega
      have hki2 : ¬ (61 : Int) ≤ k := by omega
      go_wp2
      go_quiet (fail)
      go_wp2
      exact ⟨⟨k + 1, by omega, by go_num, ⟨_, rfl⟩⟩, by simp [intOf]; omega⟩
    · obtain rfl : k = 61 := by omega
      have hki : ¬ (61 : Int) < 61 := by omega
      have hbn2 := Below.drewN HB3.out N
      generalize w3.drewN N = v2 at *
      have HV2 := Lib.hid hbn2
      clear hbn2
      generalize hnamesB : namesB = L2
      have HA2 := Lib.hid hnamesB; clear hnamesB
      have hla2 : L2.length = 22 := by rw [← HA2.out]; rfl
      have HLA2 := Lib.hid hla2; clear hla2
      go_upto_region 12 with (refine wpList_build_at rfl rfl (.slice (some ⟨v2.heap.size, 0, none⟩) 22 22) (v2.alloc (.cells (intRow L2) 3)) (by rw [← HA2.out]; kernel_rfl) ?_)
      have hs1 := intRow_isSl v2 3 L2 22 HLA2.out (by unfold maxLen; omega)
      have hb2 := Below.seq HV2.out ((Below.refl v2.heap.size v2).alloc (Nat.le_refl _) (.cells (intRow L2) 3))
      generalize hx1 : (some ⟨v2.heap.size, 0, none⟩ : Option Addr) = y2 at *
      generalize hw2 : v2.alloc (.cells (intRow L2) 3) = w4 at *
      have HS12 := Lib.hid hs1; have HBw4 := Lib.hid hb2
      clear hs1 hb2 hx1 hw2
      go_upto_region 13 with (refine wpList_build_at rfl rfl (.slice (some ⟨w4.heap.size, 0, none⟩) 22 22) (w4.alloc (.cells (intRow L2) 3)) (by rw [← HA2.out]; kernel_rfl) ?_)
      have hs2 := intRow_isSl w4 3 L2 22 HLA2.out (by unfold maxLen; omega)
      have hbk := (Below.refl w4.heap.size w4).alloc (Nat.le_refl _) (.cells (intRow L2) 3)
      have hb3 := Below.seq HBw4.out hbk
      have hs1 := sl_below hbk HS12.out
      generalize hx2 : (some ⟨w4.heap.size, 0, none⟩ : Option Addr) = z2 at *
      generalize hw3 : w4.alloc (.cells (intRow L2) 3) = w5 at *
      have HS22 := Lib.hid hs2; have HS1b2 := Lib.hid hs1; have HBw5 := Lib.hid hb3
      clear hs1 hs2 hb3 hx2 hw3 hbk HS12
      go_wp2_with fail
      go_loopw [8] (fun i wr => ∃ k : Nat, k ≤ 22 ∧ i = .int .i64 k ∧ ∃ N, wr = w5.drewN N) (fun i _ => 22 - (intOf i).toNat)
      case atStart => exact ⟨0, by omega, rfl, 0, rfl⟩
      case round =>
        obtain ⟨k, hk, rfl, N, rfl⟩ := hrel
        by_cases hlt : k < 22
        · obtain ⟨b1, o1, rfl, h1⟩ := ints_at HS1b2.out k hlt
          obtain ⟨b2, o2, rfl, h2⟩ := ints_at HS22.out k hlt
          generalize L2.getD k 0 = g at *
          have hki : (k : Int) < 22 := by omega
          have hki2 : ¬ (22 : Int) ≤ k := by omega
          go_wp2
          go_quiet (fail)
          go_wp2
          exact ⟨⟨k + 1, by omega, by go_num, ⟨_, rfl⟩⟩, by simp [intOf]; omega⟩
        · obtain rfl : k = 22 := by omega
          have hki : ¬ (22 : Int) < 22 := by omega
          have hbn3 := Below.drewN HBw5.out N
          generalize w5.drewN N = v3 at *
          have HV3 := Lib.hid hbn3
          clear hbn3
          generalize hnamesC : namesC = L3
          have HA3 := Lib.hid hnamesC; clear hnamesC
          have hla3 : L3.length = 19 := by rw [← HA3.out]; rfl
          have HLA3 := Lib.hid hla3; clear hla3
          go_upto_region 19 with (refine wpList_build_at rfl rfl (.slice (some ⟨v3.heap.size, 0, none⟩) 19 19) (v3.alloc (.cells (intRow L3) 3)) (by rw [← HA3.out]; kernel_rfl) ?_)
          have hs1 := intRow_isSl v3 3 L3 19 HLA3.out (by unfold maxLen; omega)
          have hb2 := Below.seq HV3.out ((Below.refl v3.heap.size v3).alloc (Nat.le_refl _) (.cells (intRow L3) 3))
          generalize hx1 : (some ⟨v3.heap.size, 0, none⟩ : Option Addr) = y3 at *
          generalize hw2 : v3.alloc (.cells (intRow L3) 3) = w6 at *
          have HS13 := Lib.hid hs1; have HBw6 := Lib.hid hb2
          clear hs1 hb2 hx1 hw2
          go_upto_region 20 with (refine wpList_build_at rfl rfl (.slice (some ⟨w6.heap.size, 0, none⟩) 19 19) (w6.alloc (.cells (intRow L3) 3)) (by rw [← HA3.out]; kernel_rfl) ?_)
          have hs2 := intRow_isSl w6 3 L3 19 HLA3.out (by unfold maxLen; omega)
          have hbk := (Below.refl w6.heap.size w6).alloc (Nat.le_refl _) (.cells (intRow L3) 3)
          have hb3 := Below.seq HBw6.out hbk
          have hs1 := sl_below hbk HS13.out
          generalize hx2 : (some ⟨w6.heap.size, 0, none⟩ : Option Addr) = z3 at *
          generalize hw3 : w6.alloc (.cells (intRow L3) 3) = w7 at *
          have HS23 := Lib.hid hs2; have HS1b3 := Lib.hid hs1; have HBw7 := Lib.hid hb3
          clear hs1 hs2 hb3 hx2 hw3 hbk HS13
          go_wp2_with fail
          go_loopw [11] (fun i wr => ∃ k : Nat, k ≤ 19 ∧ i = .int .i64 k ∧ ∃ N, wr = w7.drewN N) (fun i _ => 19 - (intOf i).toNat)
          case atStart => exact ⟨0, by omega, rfl, 0, rfl⟩
          case round =>
            obtain ⟨k, hk, rfl, N, rfl⟩ := hrel
            by_cases hlt : k < 19
            · obtain ⟨b1, o1, rfl, h1⟩ := ints_at HS1b3.out k hlt
              obtain ⟨b2, o2, rfl, h2⟩ := ints_at HS23.out k hlt
              generalize L3.getD k 0 = g at *
              have hki : (k : Int) < 19 := by omega
              have hki2 : ¬ (19 : Int) ≤ k := by omega
              go_wp2
              go_quiet (fail)
              go_wp2
              exact ⟨⟨k + 1, by omega, by go_num, ⟨_, rfl⟩⟩, by simp [intOf]; omega⟩
            · obtain rfl : k = 19 := by omega
              have hki : ¬ (19 : Int) < 19 := by omega
              go_wp2
              go_ret
              exact ⟨ret_bool (by simp), Below.drewN HBw7.out N⟩
end Go.Proofs.YtccochopiaojnaaDoor
