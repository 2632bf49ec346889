/-
  J08: HdrMakes, DoorBru, joined.
-/
import Derived.Test.YtjchaogfmnabfaaGreatDoorJ07
import Derived.Test.YtjchaogfmnabfaaGreatDoorHdrMkRef
import Derived.Test.YtjchaogfmnabfaaGreatDoorJ01
import Derived.Test.YtjchaogfmnabfaaGreatDoorJ04
namespace Go.Proofs.YtjchaogfmnabfaaGreatDoor
set_option linter.unusedVariables false
set_option linter.unusedSimpArgs false
open Go.ChangeShapes Go.WideShapes Go.ChangeAt Go.RowKit
set_option maxRecDepth 100000 in
set_option maxHeartbeats 3200000 in
theorem HeaderMakes_walk (h : Hd) (w : World) (ev : Value) (hE : ErrIs w ev) (hT : Bru w) (hi : HdIn h) (hz : HdSz h) :
    Calls Tryz.prog 3 #[.agg (hdC h)] w fun e w' => e = .returned (.bool true) ∧ Below w.heap.size w w' := by
  have HA := Lib.hid (fun w hE hT => Alive4_any w ev hE hT)
  have HMK := Lib.hid (fun w hT => HMake_any h hi hz w hT)
  have HRM := Lib.hid (fun w => RefMake_any h hi hz w)
  have hlen := make_len h hi
  have HIb := Lib.hid (sizeBlk _ hlen); have HOb := Lib.hid (rowA_one (Plain.make h).1)
  have HSb : Hid ((rowA zblk).size = (rowA (Plain.make h).1).size) := by show _ = _; rw [rowA_size, rowA_size, zblk_len, hlen]
  have heq := fun w => eql_blk (Plain.make h).1 (Plain.make h).1 hlen hlen w
  have hgb := guardBlk
  have hdd : decide ((Plain.make h).1 = (Plain.make h).1) = true := dec_t rfl
  simp only [hdd] at heq
  clear hdd
  generalize Plain.make h = r at *
  obtain ⟨bl, code⟩ := r
  have hcc : (code == code) = true := by simp
  have HE := Lib.hid hE; have HT := Lib.hid hT
  have HZ47 := Lib.hid zeroBlk
  clear hE hT hlen
  go_enter Tryz.func3, Tryz.ntmps3
  have HX0 := Lib.hid (HB.new w h)
  have HIx := Lib.hid (hdInfo h)
  go_upto_region 1 with (with_reducible refine wpList_box_agg rfl _ _ rfl (hdC h) rfl ?_)
  generalize w.alloc (.cells (hdC h) 23) = w0 at *
  go_wp2_with (first
    | (go_at_call 4; (refine (HA.out w0 (by exact HE.out.below HX0.out.bel) (by exact HT.out.below HX0.out.bel)).mono ?_); rintro e w1 ⟨rfl, hb1⟩; have HX1 := Lib.hid (HX0.out.keep hb1); clear hb1)
    | (with_reducible refine wpList_load_row rfl _ _ rfl w.heap.size rfl 23 (hdC h) (0, 0) _ HX1.out.row Tryz.underlying23 rfl HIx.out ?_))
  refine (HMK.out w1 (by exact HT.out.below HX1.out.bel)).mono ?_; rintro e w2 ⟨rfl, hb2⟩; have HX2 := Lib.hid (HX1.out.keep hb2); clear hb2
  go_upto_region 4 with (first
    | (with_reducible refine wpList_alloc_z rfl _ rfl (rowA zblk) HZ47.out ?_)
    | (with_reducible refine wpList_store_new rfl _ _ _ rfl _ rfl (rowA bl) rfl rfl HSb.out HIb.out HOb.out ?_))
  have HX3 := Lib.hid (HX2.out.keep ((Below.refl _ _).alloc (Nat.le_refl _) (.cells (rowA bl) 26)))
  have hrb : RowAt w2 26 bl (w2.alloc (.cells (rowA bl) 26)) := RowAt.new w2 _ bl
  have HRB := Lib.hid hrb
  clear hrb
  generalize w2.alloc (.cells (rowA bl) 26) = w3 at *
  go_wp2_with (first
    | (with_reducible refine wpList_load_row rfl _ _ rfl w.heap.size rfl 23 (hdC h) (0, 0) _ HX3.out.row Tryz.underlying23 rfl HIx.out ?_))
  refine (HRM.out w3).mono ?_; rintro e w4 ⟨rfl, hb4⟩; have HX4 := Lib.hid (HX3.out.keep hb4); have HR4 := Lib.hid (HRB.out.keep hb4); clear hb4
  go_upto_region 5 with (first
    | (with_reducible refine wpList_alloc_z rfl _ rfl (rowA zblk) HZ47.out ?_)
    | (with_reducible refine wpList_store_new rfl _ _ _ rfl _ rfl (rowA bl) rfl rfl HSb.out HIb.out HOb.out ?_))
  have HX5 := Lib.hid (HX4.out.keep ((Below.refl _ _).alloc (Nat.le_refl _) (.cells (rowA bl) 26)))
  have HR5 := Lib.hid (HR4.out.keep ((Below.refl _ _).alloc (Nat.le_refl _) (.cells (rowA bl) 26)))
  have hrc : RowAt w4 26 bl (w4.alloc (.cells (rowA bl) 26)) := RowAt.new w4 _ bl
  have HRC := Lib.hid hrc
  clear hrc
  generalize w4.alloc (.cells (rowA bl) 26) = w5 at *
  go_wp2_with (first
    | (with_reducible refine wpList_load_row rfl _ _ rfl w2.heap.size rfl 26 (rowA bl) (0, 0) _ HR5.out.row Tryz.underlying26 rfl HIb.out ?_)
    | (with_reducible refine wpList_load_row rfl _ _ rfl w4.heap.size rfl 26 (rowA bl) (0, 0) _ HRC.out.row Tryz.underlying26 rfl HIb.out ?_))
  go_ret
  exact ⟨rfl, HX5.out.bel⟩
end Go.Proofs.YtjchaogfmnabfaaGreatDoor
namespace Go.Proofs.YtjchaogfmnabfaaGreatDoor
open Go.ChangeShapes Go.WideShapes Go.ChangeAt Go.RowKit
/-- a table's numbers -/
def tabNums : DataW Unit → List Int
  | .agg ps => ps.map fun | .lit (.int _ z) => z | _ => 0
  | _ => []
theorem gBru : Tryz.prog.globalNamed "math/bits.deBruijn64tab" = some 7 := by kernel_rfl
theorem bru_of {laid : List (String × DataW Unit)} {W : World} (h : laidMetH Tryz.prog laid W) (hl : (laid.filter fun x => x.1 == "math/bits.deBruijn64tab") = [("math/bits.deBruijn64tab", Lib.tabData .u8 (tabNums Rows.laid_math_bits_deBruijn64tab))]) : Bru W := by
  have h1 := h.filter (fun x => x.1 == "math/bits.deBruijn64tab")
  rw [hl] at h1
  have ht := Lib.tabIs_of_head (rest := []) (n := 64) gBru (by kernel_rfl) Tryz.underlying135 Tryz.underlying5 (by kernel_rfl) (by kernel_rfl) h1
  have hc := ht.cell gBru 7 (of_decide_eq_true (by kernel_rfl))
  have e : (tabNums Rows.laid_math_bits_deBruijn64tab).getD 7 0 = 3 := by kernel_rfl
  rw [e] at hc
  exact hc
end Go.Proofs.YtjchaogfmnabfaaGreatDoor
