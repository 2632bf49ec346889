/-
  LawFits: valiseref00.CopyEntry, and the law ScribeFits, walked.
-/
import Derived.Test.YtlmenpfglcigcaaRefFits
import Derived.Test.YtlmenpfglcigcaaRowl
import Derived.Deep.RegionWith
namespace Go.Proofs.Ytlmenpfglcigcaa
open Go.ChangeShapes Go.WideShapes Go.ChangeAt Go.RowKit
/-- what CopyEntry hands back: the entry, its data in new memory -/
def NewEnt (w : World) (k : Int) (name link : List UInt8) (mode uid gid : Int) (user group : List UInt8) (sec nano : Int) (x : List UInt8) (e : Ending) (w' : World) : Prop :=
  ∃ a n c, e = .returned (entV k name link mode uid gid user group sec nano a n c) ∧ w'.ownsRow w.heap.size 5 1 (.slice a n c) n (x.map u8v) ∧ Below w.heap.size w w'
set_option maxHeartbeats 1000000 in
theorem CopyEntry_any (k : Int) (name link : List UInt8) (mode uid gid : Int) (user group : List UInt8) (sec nano : Int) (a : Option Addr) (n c : Nat) (x : List UInt8) (w : World) (h : Bs w a n c x) (hn : n ≤ 140737488355328) :
    Calls Try.prog 34 #[entV k name link mode uid gid user group sec nano a n c] w (NewEnt w k name link mode uid gid user group sec nano x) := by
  go_enter Try.func34, Try.ntmps34
  go_wp2_with fail
  refine (CopyBytes_any _ _ _ x _ (by exact Keeps.bs (Keeps.trans (Keeps.alloc w _) (Keeps.alloc _ _)) h) hn).mono ?_; rintro e w1 ⟨a1, n1, c1, rfl, ho1, hb1⟩
  have hz : w.heap.size + 1 < w1.heap.size := by have := hb1.size; simp at this; omega
  have hs11 : ∀ v : Value, ((#[.int .i64 k, .string ⟨name.toArray⟩, .string ⟨link.toArray⟩, .int .i64 mode, .int .i64 uid, .int .i64 gid, .string ⟨user.toArray⟩, .string ⟨group.toArray⟩, .int .i64 sec, .int .i64 nano, .slice a n c] : Array Value).setIfInBounds 10 v) =
    #[.int .i64 k, .string ⟨name.toArray⟩, .string ⟨link.toArray⟩, .int .i64 mode, .int .i64 uid, .int .i64 gid, .string ⟨user.toArray⟩, .string ⟨group.toArray⟩, .int .i64 sec, .int .i64 nano, v] := fun v => rfl
  have r0 : w1.heap[w.heap.size]? = some (.cells #[.int .i64 k, .string ⟨name.toArray⟩, .string ⟨link.toArray⟩, .int .i64 mode, .int .i64 uid, .int .i64 gid, .string ⟨user.toArray⟩, .string ⟨group.toArray⟩, .int .i64 sec, .int .i64 nano, .slice a n c] 58 (0, 0)) := by rw [hb1.block _ (by simp <;> omega), heap_alloc2_old]
  have r1 := heap_setCell_same w1 w.heap.size 10 _ 58 (.slice a1 n1 c1) r0
  rw [hs11] at r1
  obtain ⟨z, hz1, hz2⟩ : ∃ z : Array Value, w1.heap[w.heap.size + 1]? = some (.cells z 58 (0, 0)) ∧ z.size = 11 := ⟨_, by rw [hb1.block _ (by simp), heap_alloc2_new], rfl⟩
  have r2 : (w1.setCell ⟨w.heap.size, 10, none⟩ (.slice a1 n1 c1)).heap[w.heap.size + 1]? = some (.cells z 58 (0, 0)) := by rw [heap_setCell_other _ _ _ _ (by simp), hz1]
  have hc10 : w1.cell? ⟨w.heap.size, 10, none⟩ = some (.slice a n c) := by rw [cell_of_row _ _ _ _ _ _ r0]; rfl
  have hf10 : w1.frozen? ⟨w.heap.size, 10, none⟩ = false := frozen_of_row _ _ _ _ _ r0
  have hone : ∀ u ∈ (#[.int .i64 k, .string ⟨name.toArray⟩, .string ⟨link.toArray⟩, .int .i64 mode, .int .i64 uid, .int .i64 gid, .string ⟨user.toArray⟩, .string ⟨group.toArray⟩, .int .i64 sec, .int .i64 nano, .slice a1 n1 c1] : Array Value).toList, u.oneCell' = true := by simp [Value.oneCell']
  have R1 := Lib.hid r1; have R2 := Lib.hid r2; have HO := Lib.hid hone; have HZ2 := Lib.hid hz2
  clear r0 r1 r2 hs11 hz1 hone hz2
  go_wp2_with (first | (with_reducible refine wpList_load_row rfl 58 _ rfl w.heap.size rfl 58 _ (0, 0) _ R1.out Try.underlying58 rfl (by kernel_rfl) ?_) | ((with_reducible refine wpList_store_row rfl 58 _ _ rfl (w.heap.size + 1) rfl _ rfl z 58 R2.out ?_ (by kernel_rfl) HO.out ?_); · exact HZ2.out))
  refine bodyPost_ret (results_cell_row rfl _ _ (w.heap.size + 1) 58 _ (0, 0) _ rfl (setRow_heap _ _ _ _ _ _ R2.out) Try.underlying58 rfl (by kernel_rfl)) rfl ⟨a1, n1, c1, rfl, ?_, ?_⟩
  · refine own_base (own_keep ho1 (fun k h1 h2 => ?_)) (by simp <;> omega)
    rw [setRow_other _ _ _ _ (by simp at h1; omega), heap_setCell_other _ _ _ _ (by simp at h1 ⊢; omega)]
  · exact Below.setRow ((Below.trans (((Below.refl _ _).alloc (Nat.le_refl _) _).alloc (by simp) _) (hb1.mono (by simp <;> omega))).setCell (by simp) _) (by omega) _
set_option maxHeartbeats 2000000 in
theorem ScribeFits_walk (k : Int) (name link : List UInt8) (mode uid gid : Int) (user group : List UInt8) (sec nano : Int) (a : Option Addr) (n c : Nat) (x : List UInt8) (w : World) (h : Bs w a n c x)
    (hn : name.length ≤ 140737488351232) (hk : link.length ≤ 140737488351232) (hu : user.length ≤ 140737488351232) (hg : group.length ≤ 140737488351232) (hc : c ≤ 140737488351232) :
    Calls Try.prog 12 #[entV k name link mode uid gid user group sec nano a n c] w fun e w' => e = .returned (.bool true) ∧ Below w.heap.size w w' := by
  have hcap := h.cap
  have hc0 : Plain.fits 2 [100, 47] [] 0 0 0 [] [] 0 0 0 = true := by decide
  have HC := Lib.hid hc0; clear hc0
  have hl := h.len
  have HL := Lib.hid hl; clear hl
  generalize hF : Plain.fits k name link mode uid gid user group sec nano n = F
  have HF := Lib.hid hF; clear hF
  have h2 : ([100, 47] : List UInt8).length ≤ 140737488351232 := by simp
  go_enter Try.func12, Try.ntmps12
  go_wp2_with fail
  go_region_with (first
    | (go_at_call 33; first
        | ((with_reducible refine (Fits_any 2 [100, 47] [] 0 0 0 [] [] 0 0 none 0 0 _ h2).mono ?_); rintro e w1 ⟨rfl, hb1⟩; rw [HC.out]; obtain ⟨hc1, hf1⟩ := bcell hb1; have hz1 : w.heap.size < w1.heap.size := (by have := hb1.size; simp at this; omega))
        | ((with_reducible refine (Fits_any k name link mode uid gid user group sec nano _ _ _ _ hn).mono ?_); rintro e w3 ⟨rfl, hb3⟩; rw [HF.out]; obtain ⟨hc3, hf3⟩ := bcell hb3; have hz3 : w.heap.size < w3.heap.size := (by have := hb3.size; omega)))
    | (go_at_call 34; refine (CopyEntry_any k name link mode uid gid user group sec nano a n c x _ (by exact Below.bs hb1 (Keeps.bs (Keeps.trans (Keeps.alloc w _) (Keeps.drew _)) h)) (by omega)).mono ?_; rintro e w2 ⟨a2, n2, c2, rfl, ho2, hb2⟩; obtain rfl : n = n2 := (by rw [← own_len ho2, HL.out]); obtain ⟨hc2, hf2⟩ := bcell hb2; have hz2 : w.heap.size < w2.heap.size := (by have := hb2.size; omega))
    | (go_at_call 35; refine (RefFits_any k name link mode uid gid user group sec nano a n c _ hn hu hg hk).mono ?_; rintro e w4 ⟨rfl, hb4⟩; rw [HF.out]))
  all_goals
    go_wp2
    go_ret
    exact ⟨ret_bool (by simp), Below.seq (Below.seq (Below.seq (Below.seq ((Below.refl _ _).alloc (Nat.le_refl _) _).drew hb1) hb2) hb3) hb4⟩
end Go.Proofs.Ytlmenpfglcigcaa
