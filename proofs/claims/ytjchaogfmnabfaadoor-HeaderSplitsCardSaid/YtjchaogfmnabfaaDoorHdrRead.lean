/-
  HdrRead: header.Read: what it refuses at once.
-/
import Derived.Test.YtjchaogfmnabfaaDoorHdrForm
import Derived.Test.YtjchaogfmnabfaaDoorSealWalk
import Derived.BigRegion
namespace Go.Proofs.YtjchaogfmnabfaaDoor
set_option linter.unusedVariables false
set_option linter.unusedSimpArgs false
open Go.ChangeShapes Go.WideShapes Go.ChangeAt Go.RowKit
theorem results_cell_tmp {P : Program} {fn : Func} {p q : Tmp} {ty : TypeId} (h : fn.results = #[.cell p ty, .tmp q]) (tmps : Array Value) (w : World) (g : Nat) (t : TypeId) (cs : Array Value) (fr : Nat × Nat) (d : TypeDesc) (v : Value)
    (hp : tmps.getD p undef = .pointer (some ⟨g, 0, none⟩)) (hq : tmps.getD q undef = v) (hg : w.heap[g]? = some (.cells cs t fr))
    (hu : P.underlying ty = some d) (hd : (match d with | .struct _ | .array _ _ => true | _ => false) = true) (hi : (P.info? ty).map (·.size) = some cs.size) :
    (results fn tmps).run P w = .ok (.tuple #[.agg cs, v]) w := by
  have hp' : tmps[p]?.getD undef = .pointer (some ⟨g, 0, none⟩) := by simpa using hp
  have hq' : tmps[q]?.getD undef = v := by simpa using hq
  simp [results, h, hp', hq', asAddr, run_loadVar_row w g t ty cs fr d hg hu hd hi]
/-- a header's cells -/
def hdC (h : Hd) : Array Value := #[.string ⟨h.name.toArray⟩, .string ⟨h.link.toArray⟩, .int .i64 h.mode, .int .i64 h.uid, .int .i64 h.gid, .int .i64 h.size, .int .i64 h.mtime, .int .u8 (h.ty.toNat : Int), .string ⟨h.user.toArray⟩, .string ⟨h.group.toArray⟩, .int .i64 h.major, .int .i64 h.minor, .int .i64 h.form]
theorem hdC_size (h : Hd) : (hdC h).size = 13 := rfl
theorem hdC_one (h : Hd) : ∀ u ∈ (hdC h).toList, u.oneCell' = true := by
  intro u hu
  simp [hdC] at hu
  rcases hu with h | h | h | h | h | h | h | h | h | h | h | h | h <;> subst h <;> rfl
theorem hdInfo (h : Hd) : (Tryd.prog.info? 43).map (·.size) = some (hdC h).size := by rw [hdC_size]; kernel_rfl
def hdRes (r : Hd × Int) : Value := .tuple #[.agg (hdC r.1), .int .i64 r.2]
/-- the block and the result's variable -/
structure H2 (w : World) (l : List UInt8) (wr : World) : Prop where
  bel : Below w.heap.size w wr
  r0 : wr.heap[w.heap.size]? = some (.cells (rowA l) 47 (0, 0))
  r1 : wr.heap[w.heap.size + 1]? = some (.cells (hdC Hd.zero) 43 (0, 0))
theorem H2.new (w : World) (l : List UInt8) : H2 w l ((w.alloc (.cells (rowA l) 47)).alloc (.cells (hdC Hd.zero) 43)) :=
  ⟨((Below.refl _ _).alloc (Nat.le_refl _) _).alloc (by simp) _, heap_alloc2_old _ _ _, heap_alloc2_new _ _ _⟩
theorem H2.lit (w : World) (l : List UInt8) : H2 w l ((w.alloc (.cells (rowA l) 47)).alloc (.cells #[.string ⟨#[]⟩, .string ⟨#[]⟩, .int .i64 0, .int .i64 0, .int .i64 0, .int .i64 0, .int .i64 0, .int .u8 0, .string ⟨#[]⟩, .string ⟨#[]⟩, .int .i64 0, .int .i64 0, .int .i64 0] 43)) := H2.new w l
theorem H2.lt {w wr : World} {l : List UInt8} (h : H2 w l wr) : w.heap.size + 1 < wr.heap.size := (Array.getElem?_eq_some_iff.1 h.r1).1
theorem H2.keep {w wr w' : World} {l : List UInt8} (h : H2 w l wr) (k : Below wr.heap.size wr w') : H2 w l w' := by
  refine ⟨Below.seq h.bel k, ?_, ?_⟩
  · rw [k.block _ (Array.getElem?_eq_some_iff.1 h.r0).1]; exact h.r0
  · rw [k.block _ h.lt]; exact h.r1
theorem H2.part {w wr : World} {l : List UInt8} (h : H2 w l wr) (hl : l.length = 512) (s e : Nat) (h1 : s ≤ e) (h2 : e ≤ 512) : Bs wr (some ⟨w.heap.size, s, none⟩) (e - s) (512 - s) (fld l s e) :=
  row_bs h.r0 s e (512 - s) h1 (by omega) (by omega) (by unfold maxLen; omega)
set_option maxRecDepth 100000 in
set_option maxHeartbeats 1600000 in
theorem HRead_no (l : List UInt8) (hl : l.length = 512) (w : World) (ev : Value) (hE : ErrIs w ev) (h : l = zblk ∨ Plain.sealed l = false) :
    Calls Tryd.prog 27 #[.agg (rowA l)] w fun e w' => e = .returned (hdRes (Plain.hread l)) ∧ Below w.heap.size w w' := by
  have hr : Plain.hread l = (Hd.zero, if l = zblk then 40 else 41) := by
    unfold Plain.hread
    by_cases c : l = zblk
    · rw [if_pos c, if_pos c]
    · rw [if_neg c, if_neg c, if_pos (h.resolve_left c)]
  rw [hr]
  have HH := Lib.hid (H2.lit w l)
  have HI := Lib.hid (sizeBlk l hl)
  have HD := Lib.hid (hdInfo Hd.zero)
  have HO := Lib.hid (hdC_one Hd.zero)
  have HZ := Lib.hid (fun w => Zero_any l hl w)
  have HS := Lib.hid (fun w hE => Sealed_any l hl w ev hE)
  have HE := Lib.hid hE
  clear hE hr
  by_cases c : l = zblk
  · rw [if_pos c]
    have hd : decide (l = zblk) = true := dec_t c
    rw [hd] at HZ
    clear h c hd HS
    go_enter Tryd.func27, Tryd.ntmps27
    go_upto_region 1 with (with_reducible refine wpList_box_agg rfl _ _ rfl (rowA l) rfl ?_)
    have hR := HH.out
    generalize (w.alloc (.cells (rowA l) 47)).alloc (.cells #[.string ⟨#[]⟩, .string ⟨#[]⟩, .int .i64 0, .int .i64 0, .int .i64 0, .int .i64 0, .int .i64 0, .int .u8 0, .string ⟨#[]⟩, .string ⟨#[]⟩, .int .i64 0, .int .i64 0, .int .i64 0] 43) = wa at *
    have HR := Lib.hid hR
    clear hR HH
    go_wp2_with (first
      | (with_reducible refine wpList_load_row rfl _ _ rfl w.heap.size rfl 47 (rowA l) (0, 0) _ HR.out.r0 Tryd.underlying47 rfl HI.out ?_)
      | (go_at_call 41; (with_reducible refine (HZ.out _).mono ?_); rintro e w1 ⟨rfl, hb1⟩; have HR1 := Lib.hid (HR.out.keep hb1); clear hb1)
      | (with_reducible refine wpList_store_row rfl 43 _ _ rfl (w.heap.size + 1) rfl (hdC Hd.zero) rfl (hdC Hd.zero) 43 HR1.out.r1 rfl HD.out HO.out ?_))
    refine bodyPost_ret (results_cell_tmp rfl _ _ (w.heap.size + 1) 43 (hdC Hd.zero) (0, 0) _ _ rfl rfl (setRow_heap _ _ _ _ _ _ HR1.out.r1) Tryd.underlying43 rfl HD.out) rfl ⟨rfl, Below.setRow HR1.out.bel (by omega) _⟩
  · rw [if_neg c]
    have hd : decide (l = zblk) = false := dec_f c
    rw [hd] at HZ
    rw [h.resolve_left c] at HS
    clear h c hd
    go_enter Tryd.func27, Tryd.ntmps27
    go_upto_region 1 with (with_reducible refine wpList_box_agg rfl _ _ rfl (rowA l) rfl ?_)
    have hR := HH.out
    generalize (w.alloc (.cells (rowA l) 47)).alloc (.cells #[.string ⟨#[]⟩, .string ⟨#[]⟩, .int .i64 0, .int .i64 0, .int .i64 0, .int .i64 0, .int .i64 0, .int .u8 0, .string ⟨#[]⟩, .string ⟨#[]⟩, .int .i64 0, .int .i64 0, .int .i64 0] 43) = wa at *
    have HR := Lib.hid hR
    clear hR HH
    go_wp2_with (first
      | (with_reducible refine wpList_load_row rfl _ _ rfl w.heap.size rfl 47 (rowA l) (0, 0) _ HR.out.r0 Tryd.underlying47 rfl HI.out ?_)
      | (go_at_call 41; (with_reducible refine (HZ.out _).mono ?_); rintro e w1 ⟨rfl, hb1⟩; have HR1 := Lib.hid (HR.out.keep hb1); clear hb1)
      | (with_reducible refine wpList_load_row rfl _ _ rfl w.heap.size rfl 47 (rowA l) (0, 0) _ HR1.out.r0 Tryd.underlying47 rfl HI.out ?_)
      | (go_at_call 42; (with_reducible refine (HS.out _ (by exact HE.out.below HR1.out.bel)).mono ?_); rintro e w2 ⟨rfl, hb2⟩; have HR2 := Lib.hid (HR1.out.keep hb2); clear hb2)
      | (with_reducible refine wpList_store_row rfl 43 _ _ rfl (w.heap.size + 1) rfl (hdC Hd.zero) rfl (hdC Hd.zero) 43 HR2.out.r1 rfl HD.out HO.out ?_))
    refine bodyPost_ret (results_cell_tmp rfl _ _ (w.heap.size + 1) 43 (hdC Hd.zero) (0, 0) _ _ rfl rfl (setRow_heap _ _ _ _ _ _ HR2.out.r1) Tryd.underlying43 rfl HD.out) rfl ⟨rfl, Below.setRow HR2.out.bel (by omega) _⟩
end Go.Proofs.YtjchaogfmnabfaaDoor
