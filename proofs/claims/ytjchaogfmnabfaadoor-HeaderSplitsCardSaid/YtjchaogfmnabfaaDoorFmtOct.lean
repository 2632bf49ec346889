/-
  FmtOct: strconv.FormatInt at base 8: the octal digits of a number not below 0.
-/
import Derived.Test.YtjchaogfmnabfaaDoorPlace
import Derived.Test.YtjchaogfmnabfaaDoorArrs
import Derived.Test.YtjchaogfmnabfaaDoorDec
import Derived.Test.YtjchaogfmnabfaaDoorProg
import Derived.Laws.BitsAllLaws
import Derived.Outline
import Derived.Deep.CutBlock
import Derived.Deep.DeepCutAuto
namespace Go.Proofs.YtjchaogfmnabfaaDoor
open Go.ChangeShapes Go.WideShapes Go.ChangeAt Go.RowKit
/-- the one cell of math/bits' table that is read at 8 -/
def Bru (w : World) : Prop := w.cell? ⟨7, 7, none⟩ = some (.int .u8 3)
theorem Bru.below {w w' : World} (h : Bru w) (k : Below w.heap.size w w') : Bru w' := Below.keeps k _ _ h
theorem Tz64_8 (w : World) (h : Bru w) : Calls Tryd.prog 144 #[.int .u64 8] w fun e w' => e = .returned (.int .i64 3) ∧ w = w' := by
  unfold Bru at h
  have h1 : IntKind.u64.wrap (bits .and .u64 8 (IntKind.u64.wrap (-8)) * 285870213051353865) / 288230376151711744 = 7 := by decide +kernel
  go_enter Tryd.func144, Tryd.ntmps144
  go_wp2
  go_ret
  exact ⟨rfl, rfl⟩
theorem Tz_8 (w : World) (h : Bru w) : Calls Tryd.prog 133 #[.int .u64 8] w fun e w' => e = .returned (.int .i64 3) ∧ w = w' := by
  have H := Lib.hid (Tz64_8 w h); clear h
  go_enter Tryd.func133, Tryd.ntmps133
  go_wp2_with (go_at_call 144; (with_reducible refine (H.out).mono ?_); rintro e w1 ⟨rfl, hw⟩; obtain rfl := hw)
  go_ret
  exact ⟨rfl, rfl⟩
theorem Pow2_8 (w : World) : Calls Tryd.prog 132 #[.int .i64 8] w fun e w' => e = .returned (.bool true) ∧ w = w' := by
  have h1 : bits .and .i64 8 7 = 0 := by decide +kernel
  go_enter Tryd.func132, Tryd.ntmps132
  go_wp2
  go_ret
  exact ⟨rfl, rfl⟩
section
variable {P : Program} {ops : Array Oper} {rest : List Oper} {o : Oper} {a : Act} {w : World} {Q : Exit → Act → World → Prop}
/-- s[d] of a string whose byte there is known -/
theorem wpList_index_str (hgd : o.guard = none) (t : TypeId) (y x : Operand) (ho : o.op = .index t y x) (ht : P.underlying t = some .string) {s : ByteArray} (hy : a.eval y = .string s) {k : IntKind} (d : Nat) (hx : a.eval x = .int k (d : Int))
    (b : UInt8) (hb : s.data.toList[d]? = some b) (h : wpList P ops Q rest (a.put o.dst (.int .u8 (b.toNat : Int))) w) : wpList P ops Q (o :: rest) a w := by
  refine wpList_value hgd _ _ ?_ h
  have hr := run_index_string (P := P) (w := w) t s k (d : Int) ht
  obtain ⟨hlt, hv⟩ := List.getElem?_eq_some_iff.1 hb
  have hsz : d < s.size := by rw [Array.length_toList] at hlt; exact hlt
  have hgt : s[d]'hsz = b := by rw [← hv, Array.getElem_toList]; rfl
  have hx2 : (Instr.index t (.string s) (.int k (d : Int))).run P w = .ok (.int .u8 (b.toNat : Int)) w := by
    rw [hr, dif_pos ⟨by omega, by omega⟩]
    have : s[(d : Int).toNat]'(by omega) = b := hgt
    rw [this]
  simp [execOp, ho, hy, hx, hx2, Result.andThen]
end
def digs : ByteArray := ⟨#[48, 49, 50, 51, 52, 53, 54, 55, 56, 57, 97, 98, 99, 100, 101, 102, 103, 104, 105, 106, 107, 108, 109, 110, 111, 112, 113, 114, 115, 116, 117, 118, 119, 120, 121, 122]⟩
theorem digs_at (d : Nat) (h : d < 8) : digs.data.toList[d]? = some (UInt8.ofNat (48 + d)) := by
  have key : ∀ x : Fin 8, digs.data.toList[x.1]? = some (UInt8.ofNat (48 + x.1)) := by decide
  exact key ⟨d, h⟩
def z65 : List UInt8 := List.replicate 65 0
theorem zero65 : (Tryd.prog.info? 147).bind (·.zero) = some (.agg (rowA (z65))) := by kernel_rfl
theorem u64_and7 (n : Nat) (h : n < 18446744073709551616) : bits .and .u64 (n : Int) 7 = ((n % 8 : Nat) : Int) := by
  have e : bits .and .u64 (n : Int) 7 = ((n &&& 7 : Nat) : Int) := u64_and_nat n 7 h (by decide)
  rw [e, show (7 : Nat) = 2 ^ 3 - 1 by rfl, Nat.and_two_pow_sub_one_eq_mod]
theorem nd8_le22 (v : Nat) (h : v ≤ 9223372036854775807) : nd8 v ≤ 21 := nd8_le v 21 (by decide) (by have : (8 : Nat) ^ 21 = 9223372036854775808 := rfl; omega)
/-- what holds while the digits are laid -/
structure Odigs (w : World) (v k : Nat) (wr : World) : Prop where
  bel : Below w.heap.size w wr
  row : wr.heap[w.heap.size]? = some (.cells (rowA (fillRow 0 (octDig v) 65 k [])) 147 (0, 0))
theorem Odigs.start (w : World) (v : Nat) : Odigs w v 0 (w.alloc (.cells (rowA (z65)) 147)) := by
  refine ⟨(Below.refl _ _).alloc (Nat.le_refl _) _, ?_⟩
  rw [heap_alloc_new, fillRow_zero, List.append_nil]; rfl
theorem Odigs.step {w wr : World} {v k : Nat} (h : Odigs w v k wr) (hk : k < 65) (b : UInt8) (hb : b = octDig v k) : Odigs w v (k + 1) (wr.setCell ⟨w.heap.size, 64 - k, none⟩ (.int .u8 (b.toNat : Int))) := by
  subst hb
  refine ⟨h.bel.setCell (by simp) _, ?_⟩
  rw [heap_setCell_same _ _ _ _ _ _ h.row, show (Value.int .u8 ((octDig v k).toNat : Int)) = u8v (octDig v k) from rfl, rowA_set, show 64 - k = 65 - 1 - k by omega, fillRow_set 0 (octDig v) 65 k [] hk]
theorem Odigs.cell {w wr : World} {v k : Nat} (h : Odigs w v k wr) (hk : k < 65) (j : Nat) (hj : j < 65) : ∃ x, wr.cell? ⟨w.heap.size, j, none⟩ = some x :=
  ⟨_, by rw [cell_of_row _ _ _ _ _ _ h.row, rowA_at _ _ (by rw [fillRow_len _ _ _ _ _ (by omega)]; exact hj)]⟩
theorem Odigs.bs {w wr : World} {v k : Nat} (h : Odigs w v k wr) (hk : k ≤ 65) : Bs wr (some ⟨w.heap.size, 65 - k, none⟩) k k (octRow v k) := by
  refine ⟨by rw [List.length_map]; unfold octRow; rw [placeRow_len]; omega, Nat.le_refl _, by unfold maxLen; omega, fun j x hj => ⟨_, rfl, ?_⟩, fun h => by cases h⟩
  rw [Addr.add_lit, cell_of_row _ _ _ _ _ _ h.row]
  have hd := fillRow_drop 0 (octDig v) 65 k []
  rw [List.append_nil] at hd
  have e : (octRow v k) = (fillRow 0 (octDig v) 65 k []).drop (65 - k) := hd.symm
  rw [e, List.map_drop, List.getElem?_drop] at hj
  simpa [rowA] using hj
set_option maxRecDepth 100000 in
set_option maxHeartbeats 1600000 in
theorem FormatBits_8 (v : Nat) (hv : v ≤ 9223372036854775807) (w : World) (hT : Bru w) :
    Calls Tryd.prog 112 #[.slice none 0 0, .int .u64 v, .int .i64 8, .bool false, .bool false] w fun e w' => e = .returned (.tuple #[.slice none 0 0, .string ⟨(octRow v (nd8 v)).toArray⟩]) ∧ Below w.heap.size w w' := by
  have hn := nd8_le22 v hv
  have HT := Lib.hid hT; have HZ := Lib.hid zero65; clear hT
  go_enter Tryd.func112, Tryd.ntmps112
  go_wp2_with (first
    | (with_reducible refine wpList_alloc_z rfl _ rfl (rowA (z65)) HZ.out ?_)
    | (go_at_call 132; (with_reducible refine (Pow2_8 _).mono ?_); rintro e w1 ⟨rfl, hw⟩; obtain rfl := hw)
    | (go_at_call 133; (refine (Tz_8 _ (by exact HT.out.below (Odigs.start w v).bel)).mono ?_); rintro e w1 ⟨rfl, hw⟩; obtain rfl := hw))
  have hS := Odigs.start w v
  have HTW := Lib.hid (HT.out.below hS.bel)
  go_loopw [1, 13] (fun u i wr => ∃ k : Nat, k + nd8 (v / 8 ^ k) = nd8 v ∧ u = .int .u64 ((v / 8 ^ k : Nat) : Int) ∧ i = .int .i64 (65 - (k : Int)) ∧ Odigs w v k wr) (fun u _ _ => (intOf u).toNat)
  case atStart => exact ⟨0, by rw [Nat.pow_zero, Nat.div_one]; omega, by rw [Nat.pow_zero, Nat.div_one], by go_num, hS⟩
  case round =>
    obtain ⟨k, hk, rfl, rfl, hD⟩ := hrel
    have hdp := nd8_pos (v / 8 ^ k)
    have hk21 : k < 21 := by omega
    have hrec : 8 ≤ v / 8 ^ k → nd8 (v / 8 ^ k) = nd8 (v / 8 ^ (k + 1)) + 1 := fun h => by
      rw [Nat.pow_succ, ← Nat.div_div_eq_div_mul]
      conv => lhs; unfold nd8
      rw [if_neg (by omega)]
    have hnext : v / 8 ^ k / 8 = v / 8 ^ (k + 1) := by rw [Nat.pow_succ, ← Nat.div_div_eq_div_mul]
    have hle : v / 8 ^ k ≤ v := Nat.div_le_self _ _
    have hdig : octDig v k = UInt8.ofNat (48 + v / 8 ^ k % 8) := rfl
    have hlast : v / 8 ^ k < 8 → nd8 (v / 8 ^ k) = 1 := fun h => by unfold nd8; rw [if_pos h]
    generalize hU : v / 8 ^ (k + 1) = U' at *
    generalize v / 8 ^ k = U at *
    obtain ⟨j, hj⟩ : ∃ j : Nat, (65 : Int) - (k : Int) - 1 = (j : Int) := ⟨64 - k, by omega⟩
    have hjk : j = 64 - k := by omega
    have hj65 : (j : Int) < 65 := by omega
    obtain ⟨x0, hx0⟩ := hD.cell (by omega) j (by omega)
    have hfz := frozen_of_row _ _ j _ _ hD.row
    have hb := digs_at (U % 8) (Nat.mod_lt _ (by decide))
    have hand := u64_and7 U (by omega)
    have hm8 : U < 8 → U % 8 = U := fun h => Nat.mod_eq_of_lt h
    generalize hB : UInt8.ofNat (48 + U % 8) = B at hb hdig
    have hstep := hD.step (by omega) B hdig.symm
    rw [← hjk] at hstep
    have HBY := Lib.hid hb; have HSTEP := Lib.hid hstep; have HN := Lib.hid hnext; have HREC := Lib.hid hrec; have HLAST := Lib.hid hlast; have HK := Lib.hid hk; have HJK := Lib.hid hjk; have HM8 := Lib.hid hm8; have HU := Lib.hid hU
    clear hb hstep hnext hrec hlast hk hjk hdig hB hm8 hU
    by_cases h8 : 8 ≤ U
    · have h8i : (8 : Int) ≤ (U : Int) := by omega
      go_wp2_with (refine wpList_index_str rfl 9 _ _ rfl Tryd.underlying9 rfl (U % 8) rfl B HBY.out ?_)
      exact ⟨⟨k + 1, by have := HREC.out h8; have := HK.out; rw [HU.out]; omega, by rw [HU.out, ← HN.out]; go_num, by go_num, HSTEP.out⟩, by simp [intOf]; omega⟩
    · have h8i : ¬ (8 : Int) ≤ (U : Int) := by omega
      have h8j : (U : Int) < 8 := by omega
      have hidx := HM8.out (by omega)
      have hb2 := HBY.out
      rw [hidx] at hb2
      have HBY2 := Lib.hid hb2
      clear hb2 hidx hand
      have hk1 : k + 1 = nd8 v := by have := HLAST.out (by omega); have := HK.out; omega
      have hbs : Bs (wr.setCell ⟨w.heap.size, j, none⟩ (.int .u8 (B.toNat : Int))) (some ⟨w.heap.size, j, none⟩) (65 - j) (65 - j) (octRow v (nd8 v)) := by
        have := HSTEP.out.bs (by omega)
        rw [← hk1]
        have e1 : 65 - (k + 1) = j := by have := HJK.out; omega
        have e2 : 65 - j = k + 1 := by omega
        rw [e1] at this
        rw [e2]
        exact this
      have HBS := Lib.hid hbs; have hbel := HSTEP.out.bel
      clear hbs hk1
      have hj2 : j ≤ 65 := by omega
      have hj3 : j < 65 := by omega
      go_wp2_with (first
        | (refine wpList_index_str rfl 9 _ _ rfl Tryd.underlying9 rfl U rfl B HBY2.out ?_)
        | (with_reducible refine wpList_slice_row rfl _ _ _ _ rfl Tryd.underlying147 (by kernel_rfl) w.heap.size rfl j 65 .i64 .i64 rfl rfl hj2 (by decide) hj3 ?_)
        | (with_reducible refine wpList_str_of_bs rfl _ _ _ rfl Tryd.underlying22 Tryd.underlying5 Tryd.underlying9 rfl HBS.out ?_))
      go_ret2
      exact ⟨rfl, hbel⟩
set_option maxHeartbeats 800000 in
theorem FormatInt_8 (v : Nat) (hv : v ≤ 9223372036854775807) (w : World) (hT : Bru w) :
    Calls Tryd.prog 69 #[.int .i64 v, .int .i64 8] w fun e w' => e = .returned (.string ⟨(octRow v (nd8 v)).toArray⟩) ∧ Below w.heap.size w w' := by
  have HF : Hid (Calls Tryd.prog 85 #[.int .i64 v, .int .i64 8] w fun e w' => e = .returned (.string ⟨(octRow v (nd8 v)).toArray⟩) ∧ Below w.heap.size w w') := by
    have H := Lib.hid (FormatBits_8 v hv w hT)
    show Calls _ _ _ _ _
    have hn : ¬ (v : Int) < 0 := by omega
    clear hT
    go_enter Tryd.func85, Tryd.ntmps85
    go_wp2_with (go_at_call 112; (with_reducible refine (H.out).mono ?_); rintro e w1 ⟨rfl, hb⟩)
    go_ret
    exact ⟨rfl, hb⟩
  clear hT
  go_enter Tryd.func69, Tryd.ntmps69
  go_wp2_with (go_at_call 85; (with_reducible refine (HF.out).mono ?_); rintro e w1 ⟨rfl, hb⟩)
  go_ret
  exact ⟨rfl, hb⟩
end Go.Proofs.YtjchaogfmnabfaaDoor
