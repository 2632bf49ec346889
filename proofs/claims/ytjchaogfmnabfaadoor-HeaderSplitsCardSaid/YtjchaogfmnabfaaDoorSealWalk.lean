/-
  SealWalk: block.Sealed, block.Seal and the reference's.
-/
import Derived.Test.YtjchaogfmnabfaaDoorSumWalk
import Derived.Test.YtjchaogfmnabfaaDoorSealLaw
import Derived.Test.YtjchaogfmnabfaaDoorNumWalk
import Derived.Test.YtjchaogfmnabfaaDoorPutWalk
import Derived.Laws.CopyOwn
namespace Go.Proofs.YtjchaogfmnabfaaDoor
open Go.ChangeShapes Go.WideShapes Go.ChangeAt Go.RowKit
theorem RowAt.keep {w wr w' : World} {e : TypeId} {l : List UInt8} (h : RowAt w e l wr) (k : Below wr.heap.size wr w') : RowAt w e l w' := by
  refine ⟨Below.seq h.bel k, ?_⟩
  rw [k.block _ (Array.getElem?_eq_some_iff.1 h.row).1]
  exact h.row
theorem RowAt.field {w wr : World} {e : TypeId} {l : List UInt8} (h : RowAt w e l wr) (hl : l.length = 512) : Bs wr (some ⟨w.heap.size, 148, none⟩) (156 - 148) (512 - 148) (sumField l) :=
  row_bs h.row 148 156 (512 - 148) (by decide) (by omega) (by decide) (by unfold maxLen; omega)
theorem sealed_eq (l : List UInt8) (n1 n2 U S : Int) (h : Plain.number (sumField l) = (n1, n2)) (hU : Plain.sum uby l = U) (hS : Plain.sum sby l = S) : Plain.sealed l = (n2 == 0 && (n1 == U || n1 == S)) := by
  unfold Plain.sealed
  rw [h, hU, hS, Bool.eq_iff_iff]
  simp
set_option maxRecDepth 100000 in
set_option maxHeartbeats 1600000 in
theorem Sealed_any (l : List UInt8) (hl : l.length = 512) (w : World) (ev : Value) (hE : ErrIs w ev) :
    Calls Tryd.prog 42 #[.agg (rowA l)] w fun e w' => e = .returned (.bool (Plain.sealed l)) ∧ Below w.heap.size w w' := by
  have HR := Lib.hid (RowAt.new w 47 l)
  have HS := Lib.hid (fun w => Sums_any l hl w)
  have HI := Lib.hid (sizeBlk l hl)
  have HL := Lib.hid hl; have HE := Lib.hid hE
  have hq := sealed_eq l
  generalize hn : Plain.number (sumField l) = r at *
  obtain ⟨n1, n2⟩ := r
  generalize hU : Plain.sum uby l = U at *
  generalize hV : Plain.sum sby l = V at *
  have hq2 := hq n1 n2 U V rfl rfl rfl
  have HN := Lib.hid hn; have HQ := Lib.hid hq2
  clear hq hq2 hl hE hn hU hV
  go_enter Tryd.func42, Tryd.ntmps42
  go_wp2_with (with_reducible refine wpList_box_agg rfl _ _ rfl (rowA l) rfl ?_)
  have hR := HR.out
  generalize w.alloc (.cells (rowA l) 47) = wa at *
  have HRR := Lib.hid hR; clear hR HR
  go_wp2_with (first
    | (with_reducible refine wpList_slice_row rfl _ _ _ _ rfl Tryd.underlying47 (by kernel_rfl) w.heap.size rfl 148 156 .i64 .i64 rfl rfl (by decide) (by decide) (by decide) ?_)
    | (go_at_call 45; (refine (Number_any _ _ _ (sumField l) wa ev (by exact HRR.out.field HL.out) (by decide) (by exact HE.out.below HRR.out.bel)).mono ?_); rintro e w1 ⟨rfl, hb1⟩; rw [HN.out]; unfold decV; have HR1 := Lib.hid (HRR.out.keep hb1); have H1 := Lib.hid HR1.out.row; clear hb1)
    | (with_reducible refine wpList_load_row rfl _ _ rfl w.heap.size rfl 47 (rowA l) (0, 0) _ H1.out Tryd.underlying47 rfl HI.out ?_)
    | (go_at_call 50; (with_reducible refine (HS.out _).mono ?_); rintro e w2 ⟨rfl, hb2⟩; have HB2 := Lib.hid (Below.seq HR1.out.bel hb2); clear hb2))
  all_goals
    go_ret
    refine ⟨ret_bool ?_, HB2.out⟩
    rw [HQ.out]
    first | rfl | simp_all
set_option maxRecDepth 100000 in
set_option maxHeartbeats 1600000 in
theorem RefSealed_any (l : List UInt8) (hl : l.length = 512) (w : World) :
    Calls Tryd.prog 47 #[.agg (rowA l)] w fun e w' => e = .returned (.bool (Plain.sealed l)) ∧ Below w.heap.size w w' := by
  have HR := Lib.hid (RowAt.new w 47 l)
  have HS := Lib.hid (fun w => RefSums_any l hl w)
  have HI := Lib.hid (sizeBlk l hl)
  have HL := Lib.hid hl
  have hq := sealed_eq l
  generalize hn : Plain.number (sumField l) = r at *
  obtain ⟨n1, n2⟩ := r
  generalize hU : Plain.sum uby l = U at *
  generalize hV : Plain.sum sby l = V at *
  have hq2 := hq n1 n2 U V rfl rfl rfl
  have HN := Lib.hid hn; have HQ := Lib.hid hq2
  clear hq hq2 hl hn hU hV
  go_enter Tryd.func47, Tryd.ntmps47
  go_wp2_with (with_reducible refine wpList_box_agg rfl _ _ rfl (rowA l) rfl ?_)
  have hR := HR.out
  generalize w.alloc (.cells (rowA l) 47) = wa at *
  have HRR := Lib.hid hR; clear hR HR
  go_wp2_with (first
    | (with_reducible refine wpList_slice_row rfl _ _ _ _ rfl Tryd.underlying47 (by kernel_rfl) w.heap.size rfl 148 156 .i64 .i64 rfl rfl (by decide) (by decide) (by decide) ?_)
    | (go_at_call 67; (refine (RefNumber_any _ _ _ (sumField l) wa (by exact HRR.out.field HL.out)).mono ?_); rintro e w1 ⟨rfl, hb1⟩; rw [HN.out]; unfold decV; have HR1 := Lib.hid (HRR.out.keep hb1); have H1 := Lib.hid HR1.out.row; clear hb1)
    | (with_reducible refine wpList_load_row rfl _ _ rfl w.heap.size rfl 47 (rowA l) (0, 0) _ H1.out Tryd.underlying47 rfl HI.out ?_)
    | (go_at_call 68; (with_reducible refine (HS.out _).mono ?_); rintro e w2 ⟨rfl, hb2⟩; have HB2 := Lib.hid (Below.seq HR1.out.bel hb2); clear hb2))
  all_goals
    go_ret
    refine ⟨ret_bool ?_, HB2.out⟩
    rw [HQ.out]
    first | rfl | simp_all
end Go.Proofs.YtjchaogfmnabfaaDoor
